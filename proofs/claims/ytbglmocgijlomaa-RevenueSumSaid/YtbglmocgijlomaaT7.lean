/- The clock: days and hours. -/
import Derived.Test.YtbglmocgijlomaaT6
import Derived.Test.YtbglmocgijlomaaS1
namespace Go.Proofs.Ytbglmocgijlomaa
open Go.RowKit
abbrev encH (r : Hours) : List CV := [.int .i64 r.days, .int .i64 r.frm, .int .i64 r.to]
abbrev aH (r : Hours) : SV := .agg ((encH r).map .c)

/-! skiarea/clock.isTime -/
def isTimeIr : IFn := ⟨9, [.tmp 2],
  (.seq (.ops [
    ⟨(some 2), .mov, [.const (.bool false)], none⟩] false)
  (.seq (.ops [
    ⟨(some 3), .mov, [.tmp 0], none⟩,
    ⟨(some 4), .cmp .geq, [.tmp 3, .const (.int .i64 0)], none⟩,
    ⟨(some 5), .mov, [.tmp 4], none⟩,
    ⟨(some 6), .mov, [.tmp 0], (some (5, true))⟩,
    ⟨(some 7), .cmp .leq, [.tmp 6, .const (.int .i64 20000000)], (some (5, true))⟩,
    ⟨(some 8), .pick, [.tmp 5, .tmp 7, .const (.bool false)], none⟩,
    ⟨(some 2), .mov, [.tmp 8], none⟩] false)
  .ret))⟩
theorem isTimeLow : lowF Try.prog {} Try.f69 = some isTimeIr := by kernel_rfl
def isTimeS : Spec := spec Int (fun t => [I t]) (fun _ => True) (fun t => B (decide (isT t)))
theorem isTimeV : fnV Try.prog isTimeIr isTimeS := by
  intro (x : Int) hx
  repeat' ((conv => whnf); first | (refine ⟨fun h => ?_, fun h => ?_⟩ <;> try (exfalso; omega)) | refine ⟨[], rfl, trivial, congrArg CV.bool ?_⟩ | refine ⟨[], rfl, trivial, congrArg (CV.int .i64) ?_⟩ | refine ⟨⟨by omega, by omega⟩, ?_⟩ | refine ⟨by omega, ?_⟩ | fail)
  all_goals (first | rfl | refine (decide_eq_true ?_).symm | refine (decide_eq_false ?_).symm)
  all_goals (unfold isT; omega)
theorem isTime_h : Holds Try.prog 69 isTimeS := holds_of mix Try.func69 isTimeLow (fun _ => rfl) isTimeV

/-! skiarea/skiarearef02.time -/
def timeIr : IFn := ⟨9, [.tmp 2],
  (.seq (.ops [
    ⟨(some 2), .mov, [.const (.bool false)], none⟩] false)
  (.seq (.ops [
    ⟨(some 3), .mov, [.tmp 0], none⟩,
    ⟨(some 4), .cmp .geq, [.tmp 3, .const (.int .i64 0)], none⟩,
    ⟨(some 5), .mov, [.tmp 4], none⟩,
    ⟨(some 6), .mov, [.tmp 0], (some (5, true))⟩,
    ⟨(some 7), .cmp .leq, [.tmp 6, .const (.int .i64 20000000)], (some (5, true))⟩,
    ⟨(some 8), .pick, [.tmp 5, .tmp 7, .const (.bool false)], none⟩,
    ⟨(some 2), .mov, [.tmp 8], none⟩] false)
  .ret))⟩
theorem timeLow : lowF Try.prog {} Try.f73 = some timeIr := by kernel_rfl
def timeS : Spec := spec Int (fun t => [I t]) (fun _ => True) (fun t => B (decide (isT t)))
theorem timeV : fnV Try.prog timeIr timeS := by
  intro (x : Int) hx
  repeat' ((conv => whnf); first | (refine ⟨fun h => ?_, fun h => ?_⟩ <;> try (exfalso; omega)) | refine ⟨[], rfl, trivial, congrArg CV.bool ?_⟩ | refine ⟨[], rfl, trivial, congrArg (CV.int .i64) ?_⟩ | refine ⟨⟨by omega, by omega⟩, ?_⟩ | refine ⟨by omega, ?_⟩ | fail)
  all_goals (first | rfl | refine (decide_eq_true ?_).symm | refine (decide_eq_false ?_).symm)
  all_goals (unfold isT; omega)
theorem time_h : Holds Try.prog 73 timeS := holds_of mix Try.func73 timeLow (fun _ => rfl) timeV

/-! skiarea/clock.Day -/
def dayIr : IFn := ⟨8, [.tmp 2],
  (.seq (.ops [
    ⟨(some 2), .mov, [.const (.int .i64 0)], none⟩] false)
  (.seq (.seq (.ops [
    ⟨(some 3), .mov, [.tmp 0], none⟩,
    ⟨(some 4), .call 69, [.tmp 3], none⟩,
    ⟨(some 5), .not, [.tmp 4], none⟩] false)
  (.cond (.tmp 5)
    (.seq (.ops [
      ⟨(some 2), .mov, [.const (.int .i64 (-1))], none⟩] false)
    .ret)
    .skip))
  (.seq (.ops [
    ⟨(some 6), .mov, [.tmp 0], none⟩,
    ⟨(some 7), .bin .quo .i64 false, [.tmp 6, .const (.int .i64 86400)], none⟩,
    ⟨(some 2), .mov, [.tmp 7], none⟩] false)
  .ret)))⟩
theorem dayLow : lowF Try.prog {} Try.f71 = some dayIr := by kernel_rfl
def dayS : Spec := spec Int (fun t => [I t]) (fun _ => True) (fun t => I (dayF t))
theorem dayV : fnV Try.prog dayIr dayS := by
  intro (t : Int) hx
  show vc _ _ _ _ ⟨argEnv 0 [I t], [], 0⟩
  by_cases ht : isT t
  · have h1 : t.tdiv 86400 = t / 86400 := Int.tdiv_eq_ediv_of_nonneg ht.1
    have h2 : (t / 86400).tmod 7 = t / 86400 % 7 := Int.tmod_eq_emod_of_nonneg (by have := ht.1; omega)
    have g1 := ht.1
    have g2 := ht.2
    repeat' ((conv => whnf); first | (refine ⟨fun h => ?_, fun h => ?_⟩ <;> try (exfalso; first | omega | exact absurd h (by decide) | exact h rfl)) | (refine ⟨_, isTime_h, t, trivial, leVs_of_eq rfl, .inl rfl, rfl, ?_⟩; show norm (B (decide (isT t))) _; rw [decide_eq_true ht]) | refine ⟨⟨by decide, by rw [h1]; omega, by rw [h1]; omega⟩, ?_⟩ | refine ⟨[], rfl, trivial, congrArg (CV.int .i64) ?_⟩ | fail)
    rw [dayF, if_pos ht]
  · repeat' ((conv => whnf); first | (refine ⟨fun h => ?_, fun h => ?_⟩ <;> try (exfalso; first | omega | exact absurd h (by decide) | exact h rfl)) | (refine ⟨_, isTime_h, t, trivial, leVs_of_eq rfl, .inl rfl, rfl, ?_⟩; show norm (B (decide (isT t))) _; rw [decide_eq_false ht]) | refine ⟨[], rfl, trivial, congrArg (CV.int .i64) ?_⟩ | fail)
    rw [dayF, if_neg ht]
theorem day_h : Holds Try.prog 71 dayS := holds_of mix Try.func71 dayLow (fun _ => rfl) dayV

/-! skiarea/clock.Second -/
def secIr : IFn := ⟨8, [.tmp 2],
  (.seq (.ops [
    ⟨(some 2), .mov, [.const (.int .i64 0)], none⟩] false)
  (.seq (.seq (.ops [
    ⟨(some 3), .mov, [.tmp 0], none⟩,
    ⟨(some 4), .call 69, [.tmp 3], none⟩,
    ⟨(some 5), .not, [.tmp 4], none⟩] false)
  (.cond (.tmp 5)
    (.seq (.ops [
      ⟨(some 2), .mov, [.const (.int .i64 (-1))], none⟩] false)
    .ret)
    .skip))
  (.seq (.ops [
    ⟨(some 6), .mov, [.tmp 0], none⟩,
    ⟨(some 7), .bin .rem .i64 false, [.tmp 6, .const (.int .i64 86400)], none⟩,
    ⟨(some 2), .mov, [.tmp 7], none⟩] false)
  .ret)))⟩
theorem secLow : lowF Try.prog {} Try.f72 = some secIr := by kernel_rfl
def secS : Spec := spec Int (fun t => [I t]) (fun _ => True) (fun t => I (secF t))
theorem secV : fnV Try.prog secIr secS := by
  intro (t : Int) hx
  show vc _ _ _ _ ⟨argEnv 0 [I t], [], 0⟩
  by_cases ht : isT t
  · have h1 : t.tdiv 86400 = t / 86400 := Int.tdiv_eq_ediv_of_nonneg ht.1
    have h2 : (t / 86400).tmod 7 = t / 86400 % 7 := Int.tmod_eq_emod_of_nonneg (by have := ht.1; omega)
    have g1 := ht.1
    have g2 := ht.2
    repeat' ((conv => whnf); first | (refine ⟨fun h => ?_, fun h => ?_⟩ <;> try (exfalso; first | omega | exact absurd h (by decide) | exact h rfl)) | (refine ⟨_, isTime_h, t, trivial, leVs_of_eq rfl, .inl rfl, rfl, ?_⟩; show norm (B (decide (isT t))) _; rw [decide_eq_true ht]) | refine ⟨by decide, ?_⟩ | refine ⟨[], rfl, trivial, congrArg (CV.int .i64) ?_⟩ | fail)
    rw [secF, if_pos ht]
  · repeat' ((conv => whnf); first | (refine ⟨fun h => ?_, fun h => ?_⟩ <;> try (exfalso; first | omega | exact absurd h (by decide) | exact h rfl)) | (refine ⟨_, isTime_h, t, trivial, leVs_of_eq rfl, .inl rfl, rfl, ?_⟩; show norm (B (decide (isT t))) _; rw [decide_eq_false ht]) | refine ⟨[], rfl, trivial, congrArg (CV.int .i64) ?_⟩ | fail)
    rw [secF, if_neg ht]
theorem sec_h : Holds Try.prog 72 secS := holds_of mix Try.func72 secLow (fun _ => rfl) secV

/-! skiarea/skiarearef02.Second -/
def rsecIr : IFn := ⟨8, [.tmp 2],
  (.seq (.ops [
    ⟨(some 2), .mov, [.const (.int .i64 0)], none⟩] false)
  (.seq (.seq (.ops [
    ⟨(some 3), .mov, [.tmp 0], none⟩,
    ⟨(some 4), .call 73, [.tmp 3], none⟩,
    ⟨(some 5), .not, [.tmp 4], none⟩] false)
  (.cond (.tmp 5)
    (.seq (.ops [
      ⟨(some 2), .mov, [.const (.int .i64 (-1))], none⟩] false)
    .ret)
    .skip))
  (.seq (.ops [
    ⟨(some 6), .mov, [.tmp 0], none⟩,
    ⟨(some 7), .bin .rem .i64 false, [.tmp 6, .const (.int .i64 86400)], none⟩,
    ⟨(some 2), .mov, [.tmp 7], none⟩] false)
  .ret)))⟩
theorem rsecLow : lowF Try.prog {} Try.f76 = some rsecIr := by kernel_rfl
def rsecS : Spec := spec Int (fun t => [I t]) (fun _ => True) (fun t => I (secF t))
theorem rsecV : fnV Try.prog rsecIr rsecS := by
  intro (t : Int) hx
  show vc _ _ _ _ ⟨argEnv 0 [I t], [], 0⟩
  by_cases ht : isT t
  · have h1 : t.tdiv 86400 = t / 86400 := Int.tdiv_eq_ediv_of_nonneg ht.1
    have h2 : (t / 86400).tmod 7 = t / 86400 % 7 := Int.tmod_eq_emod_of_nonneg (by have := ht.1; omega)
    have g1 := ht.1
    have g2 := ht.2
    repeat' ((conv => whnf); first | (refine ⟨fun h => ?_, fun h => ?_⟩ <;> try (exfalso; first | omega | exact absurd h (by decide) | exact h rfl)) | (refine ⟨_, time_h, t, trivial, leVs_of_eq rfl, .inl rfl, rfl, ?_⟩; show norm (B (decide (isT t))) _; rw [decide_eq_true ht]) | refine ⟨by decide, ?_⟩ | refine ⟨[], rfl, trivial, congrArg (CV.int .i64) ?_⟩ | fail)
    rw [secF, if_pos ht]
  · repeat' ((conv => whnf); first | (refine ⟨fun h => ?_, fun h => ?_⟩ <;> try (exfalso; first | omega | exact absurd h (by decide) | exact h rfl)) | (refine ⟨_, time_h, t, trivial, leVs_of_eq rfl, .inl rfl, rfl, ?_⟩; show norm (B (decide (isT t))) _; rw [decide_eq_false ht]) | refine ⟨[], rfl, trivial, congrArg (CV.int .i64) ?_⟩ | fail)
    rw [secF, if_neg ht]
theorem rsec_h : Holds Try.prog 76 rsecS := holds_of mix Try.func76 rsecLow (fun _ => rfl) rsecV

/-! skiarea/skiarearef02.Weekday -/
def rwdIr : IFn := ⟨9, [.tmp 2],
  (.seq (.ops [
    ⟨(some 2), .mov, [.const (.int .i64 0)], none⟩] false)
  (.seq (.seq (.ops [
    ⟨(some 3), .mov, [.tmp 0], none⟩,
    ⟨(some 4), .call 73, [.tmp 3], none⟩,
    ⟨(some 5), .not, [.tmp 4], none⟩] false)
  (.cond (.tmp 5)
    (.seq (.ops [
      ⟨(some 2), .mov, [.const (.int .i64 (-1))], none⟩] false)
    .ret)
    .skip))
  (.seq (.ops [
    ⟨(some 6), .mov, [.tmp 0], none⟩,
    ⟨(some 7), .bin .quo .i64 false, [.tmp 6, .const (.int .i64 86400)], none⟩,
    ⟨(some 8), .bin .rem .i64 false, [.tmp 7, .const (.int .i64 7)], none⟩,
    ⟨(some 2), .mov, [.tmp 8], none⟩] false)
  .ret)))⟩
theorem rwdLow : lowF Try.prog {} Try.f75 = some rwdIr := by kernel_rfl
def rwdS : Spec := spec Int (fun t => [I t]) (fun _ => True) (fun t => I (wdF t))
theorem rwdV : fnV Try.prog rwdIr rwdS := by
  intro (t : Int) hx
  show vc _ _ _ _ ⟨argEnv 0 [I t], [], 0⟩
  by_cases ht : isT t
  · have h1 : t.tdiv 86400 = t / 86400 := Int.tdiv_eq_ediv_of_nonneg ht.1
    have h2 : (t / 86400).tmod 7 = t / 86400 % 7 := Int.tmod_eq_emod_of_nonneg (by have := ht.1; omega)
    have g1 := ht.1
    have g2 := ht.2
    repeat' ((conv => whnf); first | (refine ⟨fun h => ?_, fun h => ?_⟩ <;> try (exfalso; first | omega | exact absurd h (by decide) | exact h rfl)) | (refine ⟨_, time_h, t, trivial, leVs_of_eq rfl, .inl rfl, rfl, ?_⟩; show norm (B (decide (isT t))) _; rw [decide_eq_true ht]) | refine ⟨⟨by decide, by rw [h1]; omega, by rw [h1]; omega⟩, ?_⟩ | refine ⟨by decide, ?_⟩ | refine ⟨[], rfl, trivial, congrArg (CV.int .i64) ?_⟩ | fail)
    rw [wdF, if_pos ht]
  · repeat' ((conv => whnf); first | (refine ⟨fun h => ?_, fun h => ?_⟩ <;> try (exfalso; first | omega | exact absurd h (by decide) | exact h rfl)) | (refine ⟨_, time_h, t, trivial, leVs_of_eq rfl, .inl rfl, rfl, ?_⟩; show norm (B (decide (isT t))) _; rw [decide_eq_false ht]) | refine ⟨[], rfl, trivial, congrArg (CV.int .i64) ?_⟩ | fail)
    rw [wdF, if_neg ht]
theorem rwd_h : Holds Try.prog 75 rwdS := holds_of mix Try.func75 rwdLow (fun _ => rfl) rwdV

theorem emod7 {d : Int} (h : 0 ≤ d) : d.tmod 7 = d % 7 := Int.tmod_eq_emod_of_nonneg h

/-! skiarea/clock.on -/
def onIr : IFn := ⟨12, [.tmp 4],
  (.seq (.ops [
    ⟨(some 2), .box, [.tmp 0], none⟩,
    ⟨(some 4), .mov, [.const (.bool false)], none⟩] false)
  (.seq (.ops [
    ⟨(some 5), .faddr 0, [.tmp 2], none⟩,
    ⟨(some 6), .load 1 false, [.tmp 5], none⟩,
    ⟨(some 7), .mov, [.tmp 1], none⟩,
    ⟨(some 8), .bin .rem .i64 false, [.tmp 7, .const (.int .i64 7)], none⟩,
    ⟨(some 9), .bin .shr .i64 false, [.tmp 6, .tmp 8], none⟩,
    ⟨(some 10), .bin .and .i64 false, [.tmp 9, .const (.int .i64 1)], none⟩,
    ⟨(some 11), .cmp .eql, [.tmp 10, .const (.int .i64 1)], none⟩,
    ⟨(some 4), .mov, [.tmp 11], none⟩] false)
  .ret))⟩
theorem onLow : lowF Try.prog {} Try.f70 = some onIr := by kernel_rfl
def onS : Spec := spec (Hours × Int) (fun p => [aH p.1, I p.2]) (fun p => 0 ≤ p.2) (fun p => B (decide (onF p.1.days (p.2 % 7))))
theorem onV : fnV Try.prog onIr onS := by
  intro ⟨(h : Hours), (d : Int)⟩ (hd : 0 ≤ d)
  show vc _ _ _ _ ⟨argEnv 0 [aH h, I d], [], 0⟩
  have e := emod7 hd
  conv => whnf
  refine ⟨by decide, ?_⟩
  conv => whnf
  refine ⟨by rw [e]; omega, ?_⟩
  conv => whnf
  rw [e]
  refine ⟨fun hc => ?_, fun hc => ?_⟩
  · conv => whnf
    refine ⟨[], rfl, trivial, congrArg CV.bool ?_⟩
    exact (decide_eq_true (show onF h.days (d % 7) from hc)).symm
  · conv => whnf
    refine ⟨[], rfl, trivial, congrArg CV.bool ?_⟩
    exact (decide_eq_false (show ¬ onF h.days (d % 7) from hc)).symm
theorem on_h : Holds Try.prog 70 onS := holds_of mix Try.func70 onLow (fun _ => rfl) onV

/-! skiarea/skiarearef02.on -/
def ronIr : IFn := ⟨11, [.tmp 4],
  (.seq (.ops [
    ⟨(some 4), .mov, [.const (.bool false)], none⟩] false)
  (.seq (.ops [
    ⟨(some 5), .mov, [.tmp 0], none⟩,
    ⟨(some 6), .mov, [.tmp 1], none⟩,
    ⟨(some 7), .conv .u64, [.tmp 6], none⟩,
    ⟨(some 8), .bin .shr .i64 false, [.tmp 5, .tmp 7], none⟩,
    ⟨(some 9), .bin .and .i64 false, [.tmp 8, .const (.int .i64 1)], none⟩,
    ⟨(some 10), .cmp .eql, [.tmp 9, .const (.int .i64 1)], none⟩,
    ⟨(some 4), .mov, [.tmp 10], none⟩] false)
  .ret))⟩
theorem ronLow : lowF Try.prog {} Try.f74 = some ronIr := by kernel_rfl
def ronS : Spec := spec (Int × Int) (fun p => [I p.1, I p.2]) (fun p => 0 ≤ p.2 ∧ p.2 ≤ 1000) (fun p => B (decide (onF p.1 p.2)))
theorem ronV : fnV Try.prog ronIr ronS := by
  intro ⟨(h : Int), (d : Int)⟩ hx
  obtain ⟨hd, hd2⟩ : 0 ≤ d ∧ d ≤ 1000 := hx
  show vc _ _ _ _ ⟨argEnv 0 [I h, I d], [], 0⟩
  conv => whnf
  refine ⟨(by show IntKind.wrap .u64 d = d; simp [IntKind.wrap, IntKind.bits]; omega), ?_⟩
  conv => whnf
  refine ⟨by omega, ?_⟩
  conv => whnf
  refine ⟨fun hc => ?_, fun hc => ?_⟩
  · conv => whnf
    refine ⟨[], rfl, trivial, congrArg CV.bool ?_⟩
    exact (decide_eq_true (show onF h d from hc)).symm
  · conv => whnf
    refine ⟨[], rfl, trivial, congrArg CV.bool ?_⟩
    exact (decide_eq_false (show ¬ onF h d from hc)).symm
theorem ron_h : Holds Try.prog 74 ronS := holds_of mix Try.func74 ronLow (fun _ => rfl) ronV

/-! skiarea/skiarearef02.Right -/
def rrightIr : IFn := ⟨56, [.tmp 2],
  (.seq (.ops [
    ⟨(some 2), .mov, [.const (.bool false)], none⟩] false)
  (.seq (.seq (.ops [
    ⟨(some 4), .mov, [.tmp 0], none⟩,
    ⟨(some 5), .len, [.tmp 4], none⟩,
    ⟨(some 6), .cmp .gtr, [.tmp 5, .const (.int .i64 16)], none⟩] false)
  (.cond (.tmp 6)
    (.seq (.ops [
      ⟨(some 2), .mov, [.const (.bool false)], none⟩] false)
    .ret)
    .skip))
  (.seq (.seq (.ops [
    ⟨(some 3), .mov, [.const (.int .i64 0)], none⟩] false)
  (.block 0
    (.loop
      (.seq (.seq (.ops [
        ⟨(some 7), .mov, [.tmp 3], none⟩,
        ⟨(some 8), .mov, [.tmp 0], none⟩,
        ⟨(some 9), .len, [.tmp 8], none⟩,
        ⟨(some 10), .cmp .lss, [.tmp 7, .tmp 9], none⟩] false)
      (.cond (.tmp 10)
        .skip
        (.exit 0)))
      (.seq (.block 1
        (.seq (.ops [
          ⟨(some 13), .mov, [.tmp 0], none⟩,
          ⟨(some 14), .mov, [.tmp 3], none⟩,
          ⟨(some 15), .idx 3, [.tmp 13, .tmp 14], none⟩,
          ⟨(some 16), .faddr 0, [.tmp 15], none⟩,
          ⟨(some 17), .load 1 false, [.tmp 16], none⟩,
          ⟨(some 18), .cmp .lss, [.tmp 17, .const (.int .i64 1)], none⟩,
          ⟨(some 19), .mov, [.tmp 18], none⟩,
          ⟨(some 20), .mov, [.tmp 0], (some (19, false))⟩,
          ⟨(some 21), .mov, [.tmp 3], (some (19, false))⟩,
          ⟨(some 22), .idx 3, [.tmp 20, .tmp 21], (some (19, false))⟩,
          ⟨(some 23), .faddr 0, [.tmp 22], (some (19, false))⟩,
          ⟨(some 24), .load 1 false, [.tmp 23], (some (19, false))⟩,
          ⟨(some 25), .cmp .gtr, [.tmp 24, .const (.int .i64 127)], (some (19, false))⟩,
          ⟨(some 26), .pick, [.tmp 19, .const (.bool true), .tmp 25], none⟩,
          ⟨(some 27), .mov, [.tmp 26], none⟩,
          ⟨(some 28), .mov, [.tmp 0], (some (27, false))⟩,
          ⟨(some 29), .mov, [.tmp 3], (some (27, false))⟩,
          ⟨(some 30), .idx 3, [.tmp 28, .tmp 29], (some (27, false))⟩,
          ⟨(some 31), .faddr 1, [.tmp 30], (some (27, false))⟩,
          ⟨(some 32), .load 1 false, [.tmp 31], (some (27, false))⟩,
          ⟨(some 33), .cmp .lss, [.tmp 32, .const (.int .i64 0)], (some (27, false))⟩,
          ⟨(some 34), .pick, [.tmp 27, .const (.bool true), .tmp 33], none⟩,
          ⟨(some 35), .mov, [.tmp 34], none⟩,
          ⟨(some 36), .mov, [.tmp 0], (some (35, false))⟩,
          ⟨(some 37), .mov, [.tmp 3], (some (35, false))⟩,
          ⟨(some 38), .idx 3, [.tmp 36, .tmp 37], (some (35, false))⟩,
          ⟨(some 39), .faddr 1, [.tmp 38], (some (35, false))⟩,
          ⟨(some 40), .load 1 false, [.tmp 39], (some (35, false))⟩,
          ⟨(some 41), .mov, [.tmp 0], (some (35, false))⟩,
          ⟨(some 42), .mov, [.tmp 3], (some (35, false))⟩,
          ⟨(some 43), .idx 3, [.tmp 41, .tmp 42], (some (35, false))⟩,
          ⟨(some 44), .faddr 2, [.tmp 43], (some (35, false))⟩,
          ⟨(some 45), .load 1 false, [.tmp 44], (some (35, false))⟩,
          ⟨(some 46), .cmp .geq, [.tmp 40, .tmp 45], (some (35, false))⟩,
          ⟨(some 47), .pick, [.tmp 35, .const (.bool true), .tmp 46], none⟩,
          ⟨(some 48), .mov, [.tmp 47], none⟩,
          ⟨(some 49), .mov, [.tmp 0], (some (48, false))⟩,
          ⟨(some 50), .mov, [.tmp 3], (some (48, false))⟩,
          ⟨(some 51), .idx 3, [.tmp 49, .tmp 50], (some (48, false))⟩,
          ⟨(some 52), .faddr 2, [.tmp 51], (some (48, false))⟩,
          ⟨(some 53), .load 1 false, [.tmp 52], (some (48, false))⟩,
          ⟨(some 54), .cmp .gtr, [.tmp 53, .const (.int .i64 86400)], (some (48, false))⟩,
          ⟨(some 55), .pick, [.tmp 48, .const (.bool true), .tmp 54], none⟩] true)
        (.cond (.tmp 55)
          (.seq (.ops [
            ⟨(some 2), .mov, [.const (.bool false)], none⟩] false)
          .ret)
          .skip)))
      (.ops [
        ⟨(some 11), .mov, [.tmp 3], none⟩,
        ⟨(some 12), .bin .add .i64 false, [.tmp 11, .const (.int .i64 1)], none⟩,
        ⟨(some 3), .mov, [.tmp 12], none⟩] false))))))
  (.seq (.ops [
    ⟨(some 2), .mov, [.const (.bool true)], none⟩] false)
  .ret))))⟩
theorem rrightLow : lowF Try.prog {} Try.f68 = some rrightIr := by kernel_rfl
def rrightS : Spec := spec (List Hours) (fun l => [L 3 (l.map encH)]) (fun l => l.length ≤ 9223372036854775807) (fun l => B (rightF l))
theorem rrightV : fnV Try.prog rrightIr rrightS := by
  intro (l : List Hours) hx
  show vc _ _ _ _ ⟨argEnv 0 [L 3 (l.map encH)], [], 0⟩
  have hl : (l.map encH).length = l.length := List.length_map ..
  replace hx : l.length ≤ 9223372036854775807 := hx
  conv => whnf
  refine ⟨fun h => ?_, fun h => ?_⟩
  · conv => whnf
    refine ⟨[], rfl, trivial, congrArg CV.bool ?_⟩
    exact (decide_eq_false (fun hc => by omega)).symm
  conv => whnf
  refine ⟨Nat, fun xq => ⟨[(0, L 3 (l.map encH)), (3, I xq)], [], 0⟩, fun xq => xq ≤ l.length ∧ ∀ y ∈ l.take xq, okH y, fun xq => l.length - xq, ⟨0, ?_, [], ⟨⟨rfl, rfl⟩, ⟨⟨rfl, rfl⟩, trivial⟩⟩, trivial, rfl, rfl, rfl⟩, ?_⟩
  · (try dsimp only); exact ⟨Nat.zero_le _, by simp⟩
  rintro k hk
  obtain ⟨hk, hr⟩ : k ≤ l.length ∧ ∀ y ∈ l.take k, okH y := hk
  (try dsimp only)
  by_cases hkl : k < l.length
  · obtain ⟨x, hx⟩ := getElem_some hkl
    repeat' ((conv => whnf); first | (refine ⟨k + 1, ⟨?_, by (try dsimp only); omega⟩, [], ⟨⟨rfl, rfl⟩, ⟨⟨rfl, rfl⟩, trivial⟩⟩, trivial, rfl, rfl, rfl⟩; (try dsimp only); exact ⟨by omega, all_step hx hr (by unfold okH; omega)⟩) | (refine ⟨fun h => ?_, fun h => ?_⟩ <;> try (exfalso; first | omega | exact absurd h (by decide) | exact h rfl)) | (refine ⟨by omega, fun r hrr => ?_⟩; obtain rfl := get_row hrr hx) | refine ⟨⟨by omega, by omega⟩, ?_⟩ | refine ⟨[], rfl, trivial, congrArg CV.bool ?_⟩ | fail)
    all_goals exact (right_bad hx (by unfold okH; omega)).symm
  · have ha := all_end hr hkl
    repeat' ((conv => whnf); first | (refine ⟨fun h => ?_, fun h => ?_⟩ <;> try (exfalso; first | omega | exact absurd h (by decide) | exact h rfl)) | refine ⟨⟨by omega, by omega⟩, ?_⟩ | refine ⟨[], rfl, trivial, congrArg CV.bool ?_⟩ | fail)
    all_goals first | exact (decide_eq_true ⟨by omega, ha⟩).symm | exact (decide_eq_false (fun hc => by omega)).symm
theorem rright_h : Holds Try.prog 68 rrightS := holds_of mix Try.func68 rrightLow (fun _ => rfl) rrightV

/-! skiarea/clock.In -/
def innIr : IFn := ⟨35, [.tmp 4],
  (.seq (.ops [
    ⟨(some 4), .mov, [.const (.bool false)], none⟩] false)
  (.seq (.seq (.ops [
    ⟨(some 7), .mov, [.tmp 1], none⟩,
    ⟨(some 8), .call 69, [.tmp 7], none⟩,
    ⟨(some 9), .not, [.tmp 8], none⟩] false)
  (.cond (.tmp 9)
    (.seq (.ops [
      ⟨(some 4), .mov, [.const (.bool false)], none⟩] false)
    .ret)
    .skip))
  (.seq (.seq (.ops [
    ⟨(some 10), .mov, [.tmp 0], none⟩,
    ⟨(some 11), .len, [.tmp 10], none⟩,
    ⟨(some 12), .mov, [.const (.int .i64 0)], none⟩] false)
  (.block 0
    (.loop
      (.seq (.ops [
        ⟨(some 13), .cmp .lss, [.tmp 12, .tmp 11], none⟩] false)
      (.seq (.cond (.tmp 13)
        .skip
        (.exit 0))
      (.seq (.block 1
        (.seq (.ops [
          ⟨(some 14), .idx 3, [.tmp 10, .tmp 12], none⟩,
          ⟨(some 15), .load 3 true, [.tmp 14], none⟩,
          ⟨(some 6), .alloc [.int .i64 0, .int .i64 0, .int .i64 0], [], none⟩,
          ⟨none, .store 3, [.tmp 6, .tmp 15], none⟩] false)
        (.seq (.ops [
          ⟨(some 16), .load 3 true, [.tmp 6], none⟩,
          ⟨(some 17), .mov, [.tmp 1], none⟩,
          ⟨(some 18), .call 71, [.tmp 17], none⟩,
          ⟨(some 19), .call 70, [.tmp 16, .tmp 18], none⟩,
          ⟨(some 20), .mov, [.tmp 19], none⟩,
          ⟨(some 21), .faddr 1, [.tmp 6], (some (20, true))⟩,
          ⟨(some 22), .load 1 false, [.tmp 21], (some (20, true))⟩,
          ⟨(some 23), .mov, [.tmp 1], (some (20, true))⟩,
          ⟨(some 24), .call 72, [.tmp 23], (some (20, true))⟩,
          ⟨(some 25), .cmp .leq, [.tmp 22, .tmp 24], (some (20, true))⟩,
          ⟨(some 26), .pick, [.tmp 20, .tmp 25, .const (.bool false)], none⟩,
          ⟨(some 27), .mov, [.tmp 26], none⟩,
          ⟨(some 28), .mov, [.tmp 1], (some (27, true))⟩,
          ⟨(some 29), .call 72, [.tmp 28], (some (27, true))⟩,
          ⟨(some 30), .faddr 2, [.tmp 6], (some (27, true))⟩,
          ⟨(some 31), .load 1 false, [.tmp 30], (some (27, true))⟩,
          ⟨(some 32), .cmp .lss, [.tmp 29, .tmp 31], (some (27, true))⟩,
          ⟨(some 33), .pick, [.tmp 27, .tmp 32, .const (.bool false)], none⟩] true)
        (.cond (.tmp 33)
          (.seq (.ops [
            ⟨(some 4), .mov, [.const (.bool true)], none⟩] false)
          .ret)
          .skip))))
      (.ops [
        ⟨(some 34), .bin .add .i64 false, [.tmp 12, .const (.int .i64 1)], none⟩,
        ⟨(some 12), .mov, [.tmp 34], none⟩] false)))))))
  (.seq (.ops [
    ⟨(some 4), .mov, [.const (.bool false)], none⟩] false)
  .ret))))⟩
theorem innLow : lowF Try.prog {} Try.f48 = some innIr := by kernel_rfl
def innS : Spec := spec (List Hours × Int) (fun p => [L 3 (p.1.map encH), I p.2]) (fun p => p.1.length ≤ 9223372036854775807) (fun p => B (decide (inP p.1 p.2)))
theorem innV : fnV Try.prog innIr innS := by
  intro ⟨(l : List Hours), (t : Int)⟩ hx
  replace hx : l.length ≤ 9223372036854775807 := hx
  show vc _ _ _ _ ⟨argEnv 0 [L 3 (l.map encH), I t], [], 0⟩
  have hl : (l.map encH).length = l.length := List.length_map ..
  by_cases ht : isT t
  · have g1 := ht.1
    have g2 := ht.2
    repeat' ((conv => whnf); first | (refine ⟨fun h => ?_, fun h => ?_⟩ <;> try (exfalso; first | omega | exact absurd h (by decide) | exact h rfl)) | (refine ⟨_, isTime_h, t, trivial, leVs_of_eq rfl, .inl rfl, rfl, ?_⟩; show norm (B (decide (isT t))) _; rw [decide_eq_true ht]) | fail)
    conv => whnf
    refine ⟨Nat, fun xq => ⟨[(1, I t), (10, L 3 (l.map encH)), (11, I (l.map encH).length), (12, I xq)], [], 0⟩, fun xq => xq ≤ l.length ∧ ∀ y ∈ l.take xq, ¬ open1 y t, fun xq => l.length - xq, ⟨0, ?_, [], ⟨⟨rfl, rfl⟩, ⟨⟨rfl, rfl⟩, ⟨⟨rfl, rfl⟩, ⟨⟨rfl, rfl⟩, trivial⟩⟩⟩⟩, trivial, rfl, rfl, rfl⟩, ?_⟩
    · (try dsimp only); exact ⟨Nat.zero_le _, by simp⟩
    rintro k hk
    obtain ⟨hk, hr⟩ : k ≤ l.length ∧ ∀ y ∈ l.take k, ¬ open1 y t := hk
    (try dsimp only)
    by_cases hkl : k < l.length
    · obtain ⟨x, hx⟩ := getElem_some hkl
      by_cases hon : onF x.days (t / 86400 % 7)
      · repeat' ((conv => whnf); first | (refine ⟨k + 1, ⟨?_, by (try dsimp only); omega⟩, [], ⟨⟨rfl, rfl⟩, ⟨⟨rfl, rfl⟩, ⟨⟨rfl, rfl⟩, ⟨⟨rfl, rfl⟩, trivial⟩⟩⟩⟩, trivial, rfl, rfl, rfl⟩; (try dsimp only); exact ⟨by omega, all_step hx hr (fun hc => by have := hc.2; omega)⟩) | (refine ⟨fun h => ?_, fun h => ?_⟩ <;> try (exfalso; first | omega | exact absurd h (by decide) | exact h rfl)) | (refine ⟨by omega, fun r hrr => ?_⟩; obtain rfl := get_row hrr hx) | (refine ⟨_, day_h, t, trivial, leVs_of_eq rfl, .inl rfl, rfl, ?_⟩; show norm (I (dayF t)) _; rw [day_eq ht]) | (refine ⟨_, on_h, (x, t / 86400), (by show _ ≤ _; omega), leVs_of_eq rfl, .inl rfl, rfl, ?_⟩; show norm (B (decide (onF x.days (t / 86400 % 7)))) _; rw [decide_eq_true hon]) | (refine ⟨_, sec_h, t, trivial, leVs_of_eq rfl, .inl rfl, rfl, ?_⟩; show norm (I (secF t)) _; rw [sec_eq ht]) | refine ⟨⟨by omega, by omega⟩, ?_⟩ | refine ⟨[], rfl, trivial, congrArg CV.bool ?_⟩ | fail)
        all_goals exact (decide_eq_true (in_yes ht hx ⟨hon, by omega, by omega⟩)).symm
      · repeat' ((conv => whnf); first | (refine ⟨k + 1, ⟨?_, by (try dsimp only); omega⟩, [], ⟨⟨rfl, rfl⟩, ⟨⟨rfl, rfl⟩, ⟨⟨rfl, rfl⟩, ⟨⟨rfl, rfl⟩, trivial⟩⟩⟩⟩, trivial, rfl, rfl, rfl⟩; (try dsimp only); exact ⟨by omega, all_step hx hr (fun hc => hon hc.1)⟩) | (refine ⟨fun h => ?_, fun h => ?_⟩ <;> try (exfalso; first | omega | exact absurd h (by decide) | exact h rfl)) | (refine ⟨by omega, fun r hrr => ?_⟩; obtain rfl := get_row hrr hx) | (refine ⟨_, day_h, t, trivial, leVs_of_eq rfl, .inl rfl, rfl, ?_⟩; show norm (I (dayF t)) _; rw [day_eq ht]) | (refine ⟨_, on_h, (x, t / 86400), (by show _ ≤ _; omega), leVs_of_eq rfl, .inl rfl, rfl, ?_⟩; show norm (B (decide (onF x.days (t / 86400 % 7)))) _; rw [decide_eq_false hon]) | (refine ⟨_, sec_h, t, trivial, leVs_of_eq rfl, .inl rfl, rfl, ?_⟩; show norm (I (secF t)) _; rw [sec_eq ht]) | refine ⟨⟨by omega, by omega⟩, ?_⟩ | refine ⟨[], rfl, trivial, congrArg CV.bool ?_⟩ | fail)
    · have ha := all_end hr hkl
      repeat' ((conv => whnf); first | (refine ⟨fun h => ?_, fun h => ?_⟩ <;> try (exfalso; first | omega | exact absurd h (by decide) | exact h rfl)) | refine ⟨[], rfl, trivial, congrArg CV.bool ?_⟩ | fail)
      all_goals exact (decide_eq_false (in_no ha)).symm
  · repeat' ((conv => whnf); first | (refine ⟨fun h => ?_, fun h => ?_⟩ <;> try (exfalso; first | omega | exact absurd h (by decide) | exact h rfl)) | (refine ⟨_, isTime_h, t, trivial, leVs_of_eq rfl, .inl rfl, rfl, ?_⟩; show norm (B (decide (isT t))) _; rw [decide_eq_false ht]) | refine ⟨[], rfl, trivial, congrArg CV.bool ?_⟩ | fail)
    exact (decide_eq_false fun hc => ht hc.1).symm
theorem inn_h : Holds Try.prog 48 innS := holds_of mix Try.func48 innLow (fun _ => rfl) innV

/-! skiarea/skiarearef02.In -/
def rcinIr : IFn := ⟨43, [.tmp 4],
  (.seq (.ops [
    ⟨(some 4), .mov, [.const (.bool false)], none⟩] false)
  (.seq (.seq (.ops [
    ⟨(some 6), .mov, [.tmp 1], none⟩,
    ⟨(some 7), .call 73, [.tmp 6], none⟩,
    ⟨(some 8), .not, [.tmp 7], none⟩] false)
  (.cond (.tmp 8)
    (.seq (.ops [
      ⟨(some 4), .mov, [.const (.bool false)], none⟩] false)
    .ret)
    .skip))
  (.seq (.seq (.ops [
    ⟨(some 5), .mov, [.const (.int .i64 0)], none⟩] false)
  (.block 0
    (.loop
      (.seq (.seq (.ops [
        ⟨(some 9), .mov, [.tmp 5], none⟩,
        ⟨(some 10), .mov, [.tmp 0], none⟩,
        ⟨(some 11), .len, [.tmp 10], none⟩,
        ⟨(some 12), .cmp .lss, [.tmp 9, .tmp 11], none⟩] false)
      (.cond (.tmp 12)
        .skip
        (.exit 0)))
      (.seq (.block 1
        (.seq (.ops [
          ⟨(some 15), .mov, [.tmp 0], none⟩,
          ⟨(some 16), .mov, [.tmp 5], none⟩,
          ⟨(some 17), .idx 3, [.tmp 15, .tmp 16], none⟩,
          ⟨(some 18), .faddr 0, [.tmp 17], none⟩,
          ⟨(some 19), .load 1 false, [.tmp 18], none⟩,
          ⟨(some 20), .mov, [.tmp 1], none⟩,
          ⟨(some 21), .call 75, [.tmp 20], none⟩,
          ⟨(some 22), .call 74, [.tmp 19, .tmp 21], none⟩,
          ⟨(some 23), .mov, [.tmp 22], none⟩,
          ⟨(some 24), .mov, [.tmp 0], (some (23, true))⟩,
          ⟨(some 25), .mov, [.tmp 5], (some (23, true))⟩,
          ⟨(some 26), .idx 3, [.tmp 24, .tmp 25], (some (23, true))⟩,
          ⟨(some 27), .faddr 1, [.tmp 26], (some (23, true))⟩,
          ⟨(some 28), .load 1 false, [.tmp 27], (some (23, true))⟩,
          ⟨(some 29), .mov, [.tmp 1], (some (23, true))⟩,
          ⟨(some 30), .call 76, [.tmp 29], (some (23, true))⟩,
          ⟨(some 31), .cmp .leq, [.tmp 28, .tmp 30], (some (23, true))⟩,
          ⟨(some 32), .pick, [.tmp 23, .tmp 31, .const (.bool false)], none⟩,
          ⟨(some 33), .mov, [.tmp 32], none⟩,
          ⟨(some 34), .mov, [.tmp 1], (some (33, true))⟩,
          ⟨(some 35), .call 76, [.tmp 34], (some (33, true))⟩,
          ⟨(some 36), .mov, [.tmp 0], (some (33, true))⟩,
          ⟨(some 37), .mov, [.tmp 5], (some (33, true))⟩,
          ⟨(some 38), .idx 3, [.tmp 36, .tmp 37], (some (33, true))⟩,
          ⟨(some 39), .faddr 2, [.tmp 38], (some (33, true))⟩,
          ⟨(some 40), .load 1 false, [.tmp 39], (some (33, true))⟩,
          ⟨(some 41), .cmp .lss, [.tmp 35, .tmp 40], (some (33, true))⟩,
          ⟨(some 42), .pick, [.tmp 33, .tmp 41, .const (.bool false)], none⟩] true)
        (.cond (.tmp 42)
          (.seq (.ops [
            ⟨(some 4), .mov, [.const (.bool true)], none⟩] false)
          .ret)
          .skip)))
      (.ops [
        ⟨(some 13), .mov, [.tmp 5], none⟩,
        ⟨(some 14), .bin .add .i64 false, [.tmp 13, .const (.int .i64 1)], none⟩,
        ⟨(some 5), .mov, [.tmp 14], none⟩] false))))))
  (.seq (.ops [
    ⟨(some 4), .mov, [.const (.bool false)], none⟩] false)
  .ret))))⟩
theorem rcinLow : lowF Try.prog {} Try.f50 = some rcinIr := by kernel_rfl
def rcinS : Spec := spec (List Hours × Int) (fun p => [L 3 (p.1.map encH), I p.2]) (fun p => p.1.length ≤ 9223372036854775807) (fun p => B (decide (inP p.1 p.2)))
theorem rcinV : fnV Try.prog rcinIr rcinS := by
  intro ⟨(l : List Hours), (t : Int)⟩ hx
  replace hx : l.length ≤ 9223372036854775807 := hx
  show vc _ _ _ _ ⟨argEnv 0 [L 3 (l.map encH), I t], [], 0⟩
  have hl : (l.map encH).length = l.length := List.length_map ..
  by_cases ht : isT t
  · have g1 := ht.1
    have g2 := ht.2
    repeat' ((conv => whnf); first | (refine ⟨fun h => ?_, fun h => ?_⟩ <;> try (exfalso; first | omega | exact absurd h (by decide) | exact h rfl)) | (refine ⟨_, time_h, t, trivial, leVs_of_eq rfl, .inl rfl, rfl, ?_⟩; show norm (B (decide (isT t))) _; rw [decide_eq_true ht]) | fail)
    conv => whnf
    refine ⟨Nat, fun xq => ⟨[(0, L 3 (l.map encH)), (1, I t), (5, I xq)], [], 0⟩, fun xq => xq ≤ l.length ∧ ∀ y ∈ l.take xq, ¬ open1 y t, fun xq => l.length - xq, ⟨0, ?_, [], ⟨⟨rfl, rfl⟩, ⟨⟨rfl, rfl⟩, ⟨⟨rfl, rfl⟩, trivial⟩⟩⟩, trivial, rfl, rfl, rfl⟩, ?_⟩
    · (try dsimp only); exact ⟨Nat.zero_le _, by simp⟩
    rintro k hk
    obtain ⟨hk, hr⟩ : k ≤ l.length ∧ ∀ y ∈ l.take k, ¬ open1 y t := hk
    (try dsimp only)
    by_cases hkl : k < l.length
    · obtain ⟨x, hx⟩ := getElem_some hkl
      by_cases hon : onF x.days (t / 86400 % 7)
      · repeat' ((conv => whnf); first | (refine ⟨k + 1, ⟨?_, by (try dsimp only); omega⟩, [], ⟨⟨rfl, rfl⟩, ⟨⟨rfl, rfl⟩, ⟨⟨rfl, rfl⟩, trivial⟩⟩⟩, trivial, rfl, rfl, rfl⟩; (try dsimp only); exact ⟨by omega, all_step hx hr (fun hc => by have := hc.2; omega)⟩) | (refine ⟨fun h => ?_, fun h => ?_⟩ <;> try (exfalso; first | omega | exact absurd h (by decide) | exact h rfl)) | (refine ⟨by omega, fun r hrr => ?_⟩; obtain rfl := get_row hrr hx) | (refine ⟨_, rwd_h, t, trivial, leVs_of_eq rfl, .inl rfl, rfl, ?_⟩; show norm (I (wdF t)) _; rw [wd_eq ht]) | (refine ⟨_, ron_h, (x.days, t / 86400 % 7), (by show _ ∧ _; omega), leVs_of_eq rfl, .inl rfl, rfl, ?_⟩; show norm (B (decide (onF x.days (t / 86400 % 7)))) _; rw [decide_eq_true hon]) | (refine ⟨_, rsec_h, t, trivial, leVs_of_eq rfl, .inl rfl, rfl, ?_⟩; show norm (I (secF t)) _; rw [sec_eq ht]) | refine ⟨⟨by omega, by omega⟩, ?_⟩ | refine ⟨[], rfl, trivial, congrArg CV.bool ?_⟩ | fail)
        all_goals exact (decide_eq_true (in_yes ht hx ⟨hon, by omega, by omega⟩)).symm
      · repeat' ((conv => whnf); first | (refine ⟨k + 1, ⟨?_, by (try dsimp only); omega⟩, [], ⟨⟨rfl, rfl⟩, ⟨⟨rfl, rfl⟩, ⟨⟨rfl, rfl⟩, trivial⟩⟩⟩, trivial, rfl, rfl, rfl⟩; (try dsimp only); exact ⟨by omega, all_step hx hr (fun hc => hon hc.1)⟩) | (refine ⟨fun h => ?_, fun h => ?_⟩ <;> try (exfalso; first | omega | exact absurd h (by decide) | exact h rfl)) | (refine ⟨by omega, fun r hrr => ?_⟩; obtain rfl := get_row hrr hx) | (refine ⟨_, rwd_h, t, trivial, leVs_of_eq rfl, .inl rfl, rfl, ?_⟩; show norm (I (wdF t)) _; rw [wd_eq ht]) | (refine ⟨_, ron_h, (x.days, t / 86400 % 7), (by show _ ∧ _; omega), leVs_of_eq rfl, .inl rfl, rfl, ?_⟩; show norm (B (decide (onF x.days (t / 86400 % 7)))) _; rw [decide_eq_false hon]) | (refine ⟨_, rsec_h, t, trivial, leVs_of_eq rfl, .inl rfl, rfl, ?_⟩; show norm (I (secF t)) _; rw [sec_eq ht]) | refine ⟨⟨by omega, by omega⟩, ?_⟩ | refine ⟨[], rfl, trivial, congrArg CV.bool ?_⟩ | fail)
    · have ha := all_end hr hkl
      repeat' ((conv => whnf); first | (refine ⟨fun h => ?_, fun h => ?_⟩ <;> try (exfalso; first | omega | exact absurd h (by decide) | exact h rfl)) | refine ⟨[], rfl, trivial, congrArg CV.bool ?_⟩ | fail)
      all_goals exact (decide_eq_false (in_no ha)).symm
  · repeat' ((conv => whnf); first | (refine ⟨fun h => ?_, fun h => ?_⟩ <;> try (exfalso; first | omega | exact absurd h (by decide) | exact h rfl)) | (refine ⟨_, time_h, t, trivial, leVs_of_eq rfl, .inl rfl, rfl, ?_⟩; show norm (B (decide (isT t))) _; rw [decide_eq_false ht]) | refine ⟨[], rfl, trivial, congrArg CV.bool ?_⟩ | fail)
    exact (decide_eq_false fun hc => ht hc.1).symm
theorem rcin_h : Holds Try.prog 50 rcinS := holds_of mix Try.func50 rcinLow (fun _ => rfl) rcinV

end Go.Proofs.Ytbglmocgijlomaa
