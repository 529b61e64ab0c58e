/- Netting: the checks. -/
import Derived.Test.YtpkhannkbafimaaGreatP6
import Derived.Test.YtpkhannkbafimaaGreatChecked
namespace Go.Proofs.YtpkhannkbafimaaGreat
open Go.RowKit
theorem mix : Tryz.prog.follows .mixedOrders = true := by kernel_rfl
abbrev encS (r : Share) : List CV := [.int .i64 r.o, .int .i64 r.a]
abbrev aS (r : Share) : SV := .agg ((encS r).map .c)
abbrev encT (r : Tfer) : List CV := [.int .i64 r.f, .int .i64 r.t, .int .i64 r.a]
abbrev aT (r : Tfer) : SV := .agg ((encT r).map .c)

/-! skiarea/netting.operator -/
def operIr : IFn := ⟨9, [.tmp 2],
 (.seq (.ops [
 ⟨(some 2), .mov, [.const (.bool false)], none⟩] false)
 (.seq (.ops [
 ⟨(some 3), .mov, [.tmp 0], none⟩,
 ⟨(some 4), .cmp .geq, [.tmp 3, .const (.int .i64 1)], none⟩,
 ⟨(some 5), .mov, [.tmp 4], none⟩,
 ⟨(some 6), .mov, [.tmp 0], (some (5, true))⟩,
 ⟨(some 7), .cmp .leq, [.tmp 6, .const (.int .i64 8)], (some (5, true))⟩,
 ⟨(some 8), .pick, [.tmp 5, .tmp 7, .const (.bool false)], none⟩,
 ⟨(some 2), .mov, [.tmp 8], none⟩] false)
 .ret))⟩
theorem operLow : lowF Tryz.prog {} Tryz.f77 = some operIr := by kernel_rfl
def operS : Spec := spec Int (fun n => [I n]) (fun _ => True) (fun n => B (decide (okO n)))
theorem operV : fnV Tryz.prog operIr operS := by
  intro (x : Int) hx
  repeat' ((conv => whnf); first | (refine ⟨fun h => ?_, fun h => ?_⟩ <;> try (exfalso; omega)) | refine ⟨[], rfl, trivial, congrArg CV.bool ?_⟩ | refine ⟨[], rfl, trivial, congrArg (CV.int .i64) ?_⟩ | refine ⟨⟨by omega, by omega⟩, ?_⟩ | refine ⟨by omega, ?_⟩ | fail)
  all_goals (first | rfl | refine (decide_eq_true ?_).symm | refine (decide_eq_false ?_).symm)
  all_goals (unfold okO; omega)
theorem oper_h : Holds Tryz.prog 77 operS := holds_of mix Tryz.func77 operLow (fun _ => rfl) operV

/-! skiarea/netting.Right -/
def rightIr : IFn := ⟨50, [.tmp 2],
 (.seq (.ops [
 ⟨(some 2), .mov, [.const (.int .i64 0)], none⟩] false)
 (.seq (.seq (.ops [
 ⟨(some 6), .mov, [.tmp 0], none⟩,
 ⟨(some 7), .len, [.tmp 6], none⟩,
 ⟨(some 8), .cmp .gtr, [.tmp 7, .const (.int .i64 8)], none⟩] false)
 (.cond (.tmp 8)
 (.seq (.ops [
 ⟨(some 2), .mov, [.const (.int .i64 4)], none⟩] false)
 .ret)
 .skip))
 (.seq (.ops [
 ⟨(some 3), .mov, [.const (.int .i64 0)], none⟩] false)
 (.seq (.seq (.ops [
 ⟨(some 9), .mov, [.tmp 0], none⟩,
 ⟨(some 10), .len, [.tmp 9], none⟩,
 ⟨(some 11), .mov, [.const (.int .i64 0)], none⟩] false)
 (.block 0
 (.loop
 (.seq (.ops [
 ⟨(some 12), .cmp .lss, [.tmp 11, .tmp 10], none⟩] false)
 (.seq (.cond (.tmp 12)
 .skip
 (.exit 0))
 (.seq (.block 1
 (.seq (.ops [
 ⟨(some 13), .mov, [.tmp 11], none⟩,
 ⟨(some 14), .idx 2, [.tmp 9, .tmp 11], none⟩,
 ⟨(some 15), .load 2 true, [.tmp 14], none⟩,
 ⟨(some 5), .alloc [.int .i64 0, .int .i64 0], [], none⟩,
 ⟨(some 4), .mov, [.tmp 13], none⟩,
 ⟨none, .store 2, [.tmp 5, .tmp 15], none⟩] false)
 (.seq (.seq (.ops [
 ⟨(some 16), .faddr 0, [.tmp 5], none⟩,
 ⟨(some 17), .load 1 false, [.tmp 16], none⟩,
 ⟨(some 18), .call 77, [.tmp 17], none⟩,
 ⟨(some 19), .not, [.tmp 18], none⟩,
 ⟨(some 20), .mov, [.tmp 19], none⟩,
 ⟨(some 21), .faddr 1, [.tmp 5], (some (20, false))⟩,
 ⟨(some 22), .load 1 false, [.tmp 21], (some (20, false))⟩,
 ⟨(some 23), .cmp .lss, [.tmp 22, .const (.int .i64 (-137438953472))], (some (20, false))⟩,
 ⟨(some 24), .pick, [.tmp 20, .const (.bool true), .tmp 23], none⟩,
 ⟨(some 25), .mov, [.tmp 24], none⟩,
 ⟨(some 26), .faddr 1, [.tmp 5], (some (25, false))⟩,
 ⟨(some 27), .load 1 false, [.tmp 26], (some (25, false))⟩,
 ⟨(some 28), .cmp .gtr, [.tmp 27, .const (.int .i64 137438953472)], (some (25, false))⟩,
 ⟨(some 29), .pick, [.tmp 25, .const (.bool true), .tmp 28], none⟩] false)
 (.cond (.tmp 29)
 (.seq (.ops [
 ⟨(some 2), .mov, [.const (.int .i64 2)], none⟩] false)
 .ret)
 .skip))
 (.seq (.seq (.ops [
 ⟨(some 30), .mov, [.tmp 4], none⟩,
 ⟨(some 31), .cmp .gtr, [.tmp 30, .const (.int .i64 0)], none⟩,
 ⟨(some 32), .mov, [.tmp 31], none⟩,
 ⟨(some 33), .faddr 0, [.tmp 5], (some (32, true))⟩,
 ⟨(some 34), .load 1 false, [.tmp 33], (some (32, true))⟩,
 ⟨(some 35), .mov, [.tmp 0], (some (32, true))⟩,
 ⟨(some 36), .mov, [.tmp 4], (some (32, true))⟩,
 ⟨(some 37), .bin .sub .i64 false, [.tmp 36, .const (.int .i64 1)], (some (32, true))⟩,
 ⟨(some 38), .idx 2, [.tmp 35, .tmp 37], (some (32, true))⟩,
 ⟨(some 39), .faddr 0, [.tmp 38], (some (32, true))⟩,
 ⟨(some 40), .load 1 false, [.tmp 39], (some (32, true))⟩,
 ⟨(some 41), .cmp .leq, [.tmp 34, .tmp 40], (some (32, true))⟩,
 ⟨(some 42), .pick, [.tmp 32, .tmp 41, .const (.bool false)], none⟩] true)
 (.cond (.tmp 42)
 (.seq (.ops [
 ⟨(some 2), .mov, [.const (.int .i64 11)], none⟩] false)
 .ret)
 .skip))
 (.ops [
 ⟨(some 43), .mov, [.tmp 3], none⟩,
 ⟨(some 44), .faddr 1, [.tmp 5], none⟩,
 ⟨(some 45), .load 1 false, [.tmp 44], none⟩,
 ⟨(some 46), .bin .add .i64 false, [.tmp 43, .tmp 45], none⟩,
 ⟨(some 3), .mov, [.tmp 46], none⟩] false)))))
 (.ops [
 ⟨(some 47), .bin .add .i64 false, [.tmp 11, .const (.int .i64 1)], none⟩,
 ⟨(some 11), .mov, [.tmp 47], none⟩] false)))))))
 (.seq (.seq (.ops [
 ⟨(some 48), .mov, [.tmp 3], none⟩,
 ⟨(some 49), .cmp .neq, [.tmp 48, .const (.int .i64 0)], none⟩] false)
 (.cond (.tmp 49)
 (.seq (.ops [
 ⟨(some 2), .mov, [.const (.int .i64 1)], none⟩] false)
 .ret)
 .skip))
 (.seq (.ops [
 ⟨(some 2), .mov, [.const (.int .i64 0)], none⟩] false)
 .ret))))))⟩
theorem rightLow : lowF Tryz.prog {} Tryz.f75 = some rightIr := by kernel_rfl
def rightS : Spec := spec (List Share) (fun l => [L 2 (l.map encS)]) (fun l => l.length ≤ 9223372036854775807) (fun l => I (rightF l))
theorem rightV : fnV Tryz.prog rightIr rightS := by
  intro (l : List Share) hx
  replace hx : l.length ≤ 9223372036854775807 := hx
  show vc _ _ _ _ ⟨argEnv 0 [L 2 (l.map encS)], [], 0⟩
  have hl : (l.map encS).length = l.length := List.length_map ..
  conv => whnf
  refine ⟨fun h => ?_, fun h => ?_⟩
  · conv => whnf
    refine ⟨[], rfl, trivial, congrArg (CV.int .i64) ?_⟩
    exact (if_pos (show 8 < l.length by omega)).symm
  have h8 : ¬ 8 < l.length := by omega
  conv => whnf
  refine ⟨Nat × Int, fun xq => ⟨[(0, L 2 (l.map encS)), (3, I xq.2), (9, L 2 (l.map encS)), (10, I (l.map encS).length), (11, I xq.1)], [], 0⟩, fun xq => xq.1 ≤ l.length ∧ goE (prevO l xq.1) (l.drop xq.1) = goE 0 l ∧ (-137438953472 * xq.1 ≤ xq.2 ∧ xq.2 ≤ 137438953472 * xq.1) ∧ xq.2 = sumA (l.take xq.1), fun xq => l.length - xq.1, ⟨(0, 0), ?_, [], ⟨⟨rfl, rfl⟩, ⟨⟨rfl, rfl⟩, ⟨⟨rfl, rfl⟩, ⟨⟨rfl, rfl⟩, ⟨⟨rfl, rfl⟩, trivial⟩⟩⟩⟩⟩, trivial, rfl, rfl, rfl⟩, ?_⟩
  · (try dsimp only); exact ⟨Nat.zero_le _, rfl, by omega, rfl⟩
  rintro ⟨k, s⟩ hk
  obtain ⟨hk, hg, ⟨hs1, hs2⟩, hse⟩ : k ≤ l.length ∧ goE (prevO l k) (l.drop k) = goE 0 l ∧ (-137438953472 * k ≤ s ∧ s ≤ 137438953472 * k) ∧ s = sumA (l.take k) := hk
  (try dsimp only)
  by_cases hkl : k < l.length
  · obtain ⟨x, hx⟩ := getElem_some hkl
    have hst := goE_step hx
    have hsn := sumA_snoc hx
    by_cases hb : okS x
    · rw [if_pos hb] at hst
      have hb' := hb
      unfold okS at hb'
      have ho : okO x.o := hb.1
      by_cases hk0 : k = 0
      · subst hk0
        have hp : prevO l 0 = 0 := rfl
        rw [if_neg (by omega)] at hst
        repeat' ((conv => whnf); first | (refine ⟨(1, _), ⟨?_, by (try dsimp only); omega⟩, [], ⟨⟨rfl, rfl⟩, ⟨⟨rfl, rfl⟩, ⟨⟨rfl, rfl⟩, ⟨⟨rfl, rfl⟩, ⟨⟨rfl, rfl⟩, trivial⟩⟩⟩⟩⟩, trivial, rfl, rfl, rfl⟩; (try dsimp only); exact ⟨by omega, by rw [← hg, hst], by omega, by rw [hsn, ← hse]⟩) | (refine ⟨fun h => ?_, fun h => ?_⟩ <;> try (exfalso; first | omega | exact absurd h (by decide) | exact h rfl)) | (refine ⟨by omega, fun r hrr => ?_⟩; obtain rfl := get_row hrr hx) | (refine ⟨_, oper_h, x.o, trivial, leVs_of_eq rfl, .inl rfl, rfl, ?_⟩; show norm (B (decide (okO x.o))) _; rw [decide_eq_true ho]) | refine ⟨⟨by omega, by omega⟩, ?_⟩ | fail)
      · obtain ⟨y, hy⟩ := getElem_some (show k - 1 < l.length by omega)
        have hp : prevO l k = y.o := by
          obtain ⟨j, rfl⟩ : ∃ j, k = j + 1 := ⟨k - 1, by omega⟩
          have hy' : l[j]? = some y := hy
          simp [prevO, hy']
        by_cases hle : x.o ≤ y.o
        · rw [if_pos (by omega)] at hst
          repeat' ((conv => whnf); first | (refine ⟨fun h => ?_, fun h => ?_⟩ <;> try (exfalso; first | omega | exact absurd h (by decide) | exact h rfl)) | (refine ⟨by omega, fun r hrr => ?_⟩; obtain rfl := get_row hrr hx) | (refine ⟨by omega, fun r hrr => ?_⟩; obtain rfl := get_row1 hrr (by omega) hy) | (refine ⟨_, oper_h, x.o, trivial, leVs_of_eq rfl, .inl rfl, rfl, ?_⟩; show norm (B (decide (okO x.o))) _; rw [decide_eq_true ho]) | refine ⟨⟨by omega, by omega⟩, ?_⟩ | refine ⟨[], rfl, trivial, congrArg (CV.int .i64) ?_⟩ | fail)
          all_goals (unfold rightF; rw [if_neg h8, ← hg, hst]; rfl)
        · rw [if_neg (by omega)] at hst
          repeat' ((conv => whnf); first | (refine ⟨(k + 1, _), ⟨?_, by (try dsimp only); omega⟩, [], ⟨⟨rfl, rfl⟩, ⟨⟨rfl, rfl⟩, ⟨⟨rfl, rfl⟩, ⟨⟨rfl, rfl⟩, ⟨⟨rfl, rfl⟩, trivial⟩⟩⟩⟩⟩, trivial, rfl, rfl, rfl⟩; (try dsimp only); exact ⟨by omega, by rw [← hg, hst], by omega, by rw [hsn, ← hse]⟩) | (refine ⟨fun h => ?_, fun h => ?_⟩ <;> try (exfalso; first | omega | exact absurd h (by decide) | exact h rfl)) | (refine ⟨by omega, fun r hrr => ?_⟩; obtain rfl := get_row hrr hx) | (refine ⟨by omega, fun r hrr => ?_⟩; obtain rfl := get_row1 hrr (by omega) hy) | (refine ⟨_, oper_h, x.o, trivial, leVs_of_eq rfl, .inl rfl, rfl, ?_⟩; show norm (B (decide (okO x.o))) _; rw [decide_eq_true ho]) | refine ⟨⟨by omega, by omega⟩, ?_⟩ | fail)
    · rw [if_neg hb] at hst
      have hb' := hb
      unfold okS at hb'
      by_cases ho : okO x.o
      · have ho' := ho
        unfold okO at ho'
        repeat' ((conv => whnf); first | (refine ⟨fun h => ?_, fun h => ?_⟩ <;> try (exfalso; first | omega | exact absurd h (by decide) | exact h rfl)) | (refine ⟨by omega, fun r hrr => ?_⟩; obtain rfl := get_row hrr hx) | (refine ⟨_, oper_h, x.o, trivial, leVs_of_eq rfl, .inl rfl, rfl, ?_⟩; show norm (B (decide (okO x.o))) _; rw [decide_eq_true ho]) | refine ⟨⟨by omega, by omega⟩, ?_⟩ | refine ⟨[], rfl, trivial, congrArg (CV.int .i64) ?_⟩ | fail)
        all_goals (unfold rightF; rw [if_neg h8, ← hg, hst]; rfl)
      · have ho' := ho
        unfold okO at ho'
        repeat' ((conv => whnf); first | (refine ⟨fun h => ?_, fun h => ?_⟩ <;> try (exfalso; first | omega | exact absurd h (by decide) | exact h rfl)) | (refine ⟨by omega, fun r hrr => ?_⟩; obtain rfl := get_row hrr hx) | (refine ⟨_, oper_h, x.o, trivial, leVs_of_eq rfl, .inl rfl, rfl, ?_⟩; show norm (B (decide (okO x.o))) _; rw [decide_eq_false ho]) | refine ⟨⟨by omega, by omega⟩, ?_⟩ | refine ⟨[], rfl, trivial, congrArg (CV.int .i64) ?_⟩ | fail)
        all_goals (unfold rightF; rw [if_neg h8, ← hg, hst]; rfl)
  · rw [goE_end hkl] at hg
    have htk : l.take k = l := take_end hkl
    rw [htk] at hse
    repeat' ((conv => whnf); first | (refine ⟨fun h => ?_, fun h => ?_⟩ <;> try (exfalso; first | omega | exact absurd h (by decide) | exact h rfl)) | refine ⟨[], rfl, trivial, congrArg (CV.int .i64) ?_⟩ | fail)
    all_goals (unfold rightF; rw [if_neg h8, ← hg, if_pos rfl])
    · rw [if_neg (by omega)]
    · rw [if_pos (by omega)]
theorem right_h : Holds Tryz.prog 75 rightS := holds_of mix Tryz.func75 rightLow (fun _ => rfl) rightV

/-! skiarea/skiarearef37.Right -/
def rrightIr : IFn := ⟨69, [.tmp 2],
 (.seq (.ops [
 ⟨(some 2), .mov, [.const (.int .i64 0)], none⟩] false)
 (.seq (.seq (.ops [
 ⟨(some 5), .mov, [.tmp 0], none⟩,
 ⟨(some 6), .len, [.tmp 5], none⟩,
 ⟨(some 7), .cmp .gtr, [.tmp 6, .const (.int .i64 8)], none⟩] false)
 (.cond (.tmp 7)
 (.seq (.ops [
 ⟨(some 2), .mov, [.const (.int .i64 4)], none⟩] false)
 .ret)
 .skip))
 (.seq (.ops [
 ⟨(some 3), .mov, [.const (.int .i64 0)], none⟩] false)
 (.seq (.seq (.ops [
 ⟨(some 4), .mov, [.const (.int .i64 0)], none⟩] false)
 (.block 0
 (.loop
 (.seq (.seq (.ops [
 ⟨(some 8), .mov, [.tmp 4], none⟩,
 ⟨(some 9), .mov, [.tmp 0], none⟩,
 ⟨(some 10), .len, [.tmp 9], none⟩,
 ⟨(some 11), .cmp .lss, [.tmp 8, .tmp 10], none⟩] false)
 (.cond (.tmp 11)
 .skip
 (.exit 0)))
 (.seq (.block 1
 (.seq (.seq (.ops [
 ⟨(some 14), .mov, [.tmp 0], none⟩,
 ⟨(some 15), .mov, [.tmp 4], none⟩,
 ⟨(some 16), .idx 2, [.tmp 14, .tmp 15], none⟩,
 ⟨(some 17), .faddr 0, [.tmp 16], none⟩,
 ⟨(some 18), .load 1 false, [.tmp 17], none⟩,
 ⟨(some 19), .cmp .lss, [.tmp 18, .const (.int .i64 1)], none⟩,
 ⟨(some 20), .mov, [.tmp 19], none⟩,
 ⟨(some 21), .mov, [.tmp 0], (some (20, false))⟩,
 ⟨(some 22), .mov, [.tmp 4], (some (20, false))⟩,
 ⟨(some 23), .idx 2, [.tmp 21, .tmp 22], (some (20, false))⟩,
 ⟨(some 24), .faddr 0, [.tmp 23], (some (20, false))⟩,
 ⟨(some 25), .load 1 false, [.tmp 24], (some (20, false))⟩,
 ⟨(some 26), .cmp .gtr, [.tmp 25, .const (.int .i64 8)], (some (20, false))⟩,
 ⟨(some 27), .pick, [.tmp 20, .const (.bool true), .tmp 26], none⟩,
 ⟨(some 28), .mov, [.tmp 27], none⟩,
 ⟨(some 29), .mov, [.tmp 0], (some (28, false))⟩,
 ⟨(some 30), .mov, [.tmp 4], (some (28, false))⟩,
 ⟨(some 31), .idx 2, [.tmp 29, .tmp 30], (some (28, false))⟩,
 ⟨(some 32), .faddr 1, [.tmp 31], (some (28, false))⟩,
 ⟨(some 33), .load 1 false, [.tmp 32], (some (28, false))⟩,
 ⟨(some 34), .cmp .lss, [.tmp 33, .const (.int .i64 (-137438953472))], (some (28, false))⟩,
 ⟨(some 35), .pick, [.tmp 28, .const (.bool true), .tmp 34], none⟩,
 ⟨(some 36), .mov, [.tmp 35], none⟩,
 ⟨(some 37), .mov, [.tmp 0], (some (36, false))⟩,
 ⟨(some 38), .mov, [.tmp 4], (some (36, false))⟩,
 ⟨(some 39), .idx 2, [.tmp 37, .tmp 38], (some (36, false))⟩,
 ⟨(some 40), .faddr 1, [.tmp 39], (some (36, false))⟩,
 ⟨(some 41), .load 1 false, [.tmp 40], (some (36, false))⟩,
 ⟨(some 42), .cmp .gtr, [.tmp 41, .const (.int .i64 137438953472)], (some (36, false))⟩,
 ⟨(some 43), .pick, [.tmp 36, .const (.bool true), .tmp 42], none⟩] false)
 (.cond (.tmp 43)
 (.seq (.ops [
 ⟨(some 2), .mov, [.const (.int .i64 2)], none⟩] false)
 .ret)
 .skip))
 (.seq (.seq (.ops [
 ⟨(some 44), .mov, [.tmp 4], none⟩,
 ⟨(some 45), .cmp .gtr, [.tmp 44, .const (.int .i64 0)], none⟩,
 ⟨(some 46), .mov, [.tmp 45], none⟩,
 ⟨(some 47), .mov, [.tmp 0], (some (46, true))⟩,
 ⟨(some 48), .mov, [.tmp 4], (some (46, true))⟩,
 ⟨(some 49), .idx 2, [.tmp 47, .tmp 48], (some (46, true))⟩,
 ⟨(some 50), .faddr 0, [.tmp 49], (some (46, true))⟩,
 ⟨(some 51), .load 1 false, [.tmp 50], (some (46, true))⟩,
 ⟨(some 52), .mov, [.tmp 0], (some (46, true))⟩,
 ⟨(some 53), .mov, [.tmp 4], (some (46, true))⟩,
 ⟨(some 54), .bin .sub .i64 false, [.tmp 53, .const (.int .i64 1)], (some (46, true))⟩,
 ⟨(some 55), .idx 2, [.tmp 52, .tmp 54], (some (46, true))⟩,
 ⟨(some 56), .faddr 0, [.tmp 55], (some (46, true))⟩,
 ⟨(some 57), .load 1 false, [.tmp 56], (some (46, true))⟩,
 ⟨(some 58), .cmp .leq, [.tmp 51, .tmp 57], (some (46, true))⟩,
 ⟨(some 59), .pick, [.tmp 46, .tmp 58, .const (.bool false)], none⟩] true)
 (.cond (.tmp 59)
 (.seq (.ops [
 ⟨(some 2), .mov, [.const (.int .i64 11)], none⟩] false)
 .ret)
 .skip))
 (.ops [
 ⟨(some 60), .mov, [.tmp 3], none⟩,
 ⟨(some 61), .mov, [.tmp 0], none⟩,
 ⟨(some 62), .mov, [.tmp 4], none⟩,
 ⟨(some 63), .idx 2, [.tmp 61, .tmp 62], none⟩,
 ⟨(some 64), .faddr 1, [.tmp 63], none⟩,
 ⟨(some 65), .load 1 false, [.tmp 64], none⟩,
 ⟨(some 66), .bin .add .i64 false, [.tmp 60, .tmp 65], none⟩,
 ⟨(some 3), .mov, [.tmp 66], none⟩] false))))
 (.ops [
 ⟨(some 12), .mov, [.tmp 4], none⟩,
 ⟨(some 13), .bin .add .i64 false, [.tmp 12, .const (.int .i64 1)], none⟩,
 ⟨(some 4), .mov, [.tmp 13], none⟩] false))))))
 (.seq (.seq (.ops [
 ⟨(some 67), .mov, [.tmp 3], none⟩,
 ⟨(some 68), .cmp .neq, [.tmp 67, .const (.int .i64 0)], none⟩] false)
 (.cond (.tmp 68)
 (.seq (.ops [
 ⟨(some 2), .mov, [.const (.int .i64 1)], none⟩] false)
 .ret)
 .skip))
 (.seq (.ops [
 ⟨(some 2), .mov, [.const (.int .i64 0)], none⟩] false)
 .ret))))))⟩
theorem rrightLow : lowF Tryz.prog {} Tryz.f72 = some rrightIr := by kernel_rfl
def rrightS : Spec := spec (List Share) (fun l => [L 2 (l.map encS)]) (fun l => l.length ≤ 9223372036854775807) (fun l => I (rightF l))
theorem rrightV : fnV Tryz.prog rrightIr rrightS := by
  intro (l : List Share) hx
  replace hx : l.length ≤ 9223372036854775807 := hx
  show vc _ _ _ _ ⟨argEnv 0 [L 2 (l.map encS)], [], 0⟩
  have hl : (l.map encS).length = l.length := List.length_map ..
  conv => whnf
  refine ⟨fun h => ?_, fun h => ?_⟩
  · conv => whnf
    refine ⟨[], rfl, trivial, congrArg (CV.int .i64) ?_⟩
    exact (if_pos (show 8 < l.length by omega)).symm
  have h8 : ¬ 8 < l.length := by omega
  conv => whnf
  refine ⟨Nat × Int, fun xq => ⟨[(0, L 2 (l.map encS)), (3, I xq.2), (4, I xq.1)], [], 0⟩, fun xq => xq.1 ≤ l.length ∧ goE (prevO l xq.1) (l.drop xq.1) = goE 0 l ∧ (-137438953472 * xq.1 ≤ xq.2 ∧ xq.2 ≤ 137438953472 * xq.1) ∧ xq.2 = sumA (l.take xq.1), fun xq => l.length - xq.1, ⟨(0, 0), ?_, [], ⟨⟨rfl, rfl⟩, ⟨⟨rfl, rfl⟩, ⟨⟨rfl, rfl⟩, trivial⟩⟩⟩, trivial, rfl, rfl, rfl⟩, ?_⟩
  · (try dsimp only); exact ⟨Nat.zero_le _, rfl, by omega, rfl⟩
  rintro ⟨k, s⟩ hk
  obtain ⟨hk, hg, ⟨hs1, hs2⟩, hse⟩ : k ≤ l.length ∧ goE (prevO l k) (l.drop k) = goE 0 l ∧ (-137438953472 * k ≤ s ∧ s ≤ 137438953472 * k) ∧ s = sumA (l.take k) := hk
  (try dsimp only)
  by_cases hkl : k < l.length
  · obtain ⟨x, hx⟩ := getElem_some hkl
    have hst := goE_step hx
    have hsn := sumA_snoc hx
    by_cases hb : okS x
    · rw [if_pos hb] at hst
      have hb' := hb
      unfold okS at hb'
      have ho : okO x.o := hb.1
      by_cases hk0 : k = 0
      · subst hk0
        have hp : prevO l 0 = 0 := rfl
        rw [if_neg (by omega)] at hst
        repeat' ((conv => whnf); first | (refine ⟨(1, _), ⟨?_, by (try dsimp only); omega⟩, [], ⟨⟨rfl, rfl⟩, ⟨⟨rfl, rfl⟩, ⟨⟨rfl, rfl⟩, trivial⟩⟩⟩, trivial, rfl, rfl, rfl⟩; (try dsimp only); exact ⟨by omega, by rw [← hg, hst], by omega, by rw [hsn, ← hse]⟩) | (refine ⟨fun h => ?_, fun h => ?_⟩ <;> try (exfalso; first | omega | exact absurd h (by decide) | exact h rfl)) | (refine ⟨by omega, fun r hrr => ?_⟩; obtain rfl := get_row hrr hx) | refine ⟨⟨by omega, by omega⟩, ?_⟩ | fail)
      · obtain ⟨y, hy⟩ := getElem_some (show k - 1 < l.length by omega)
        have hp : prevO l k = y.o := by
          obtain ⟨j, rfl⟩ : ∃ j, k = j + 1 := ⟨k - 1, by omega⟩
          have hy' : l[j]? = some y := hy
          simp [prevO, hy']
        by_cases hle : x.o ≤ y.o
        · rw [if_pos (by omega)] at hst
          repeat' ((conv => whnf); first | (refine ⟨fun h => ?_, fun h => ?_⟩ <;> try (exfalso; first | omega | exact absurd h (by decide) | exact h rfl)) | (refine ⟨by omega, fun r hrr => ?_⟩; obtain rfl := get_row hrr hx) | (refine ⟨by omega, fun r hrr => ?_⟩; obtain rfl := get_row1 hrr (by omega) hy) | refine ⟨⟨by omega, by omega⟩, ?_⟩ | refine ⟨[], rfl, trivial, congrArg (CV.int .i64) ?_⟩ | fail)
          all_goals (unfold rightF; rw [if_neg h8, ← hg, hst]; rfl)
        · rw [if_neg (by omega)] at hst
          repeat' ((conv => whnf); first | (refine ⟨(k + 1, _), ⟨?_, by (try dsimp only); omega⟩, [], ⟨⟨rfl, rfl⟩, ⟨⟨rfl, rfl⟩, ⟨⟨rfl, rfl⟩, trivial⟩⟩⟩, trivial, rfl, rfl, rfl⟩; (try dsimp only); exact ⟨by omega, by rw [← hg, hst], by omega, by rw [hsn, ← hse]⟩) | (refine ⟨fun h => ?_, fun h => ?_⟩ <;> try (exfalso; first | omega | exact absurd h (by decide) | exact h rfl)) | (refine ⟨by omega, fun r hrr => ?_⟩; obtain rfl := get_row hrr hx) | (refine ⟨by omega, fun r hrr => ?_⟩; obtain rfl := get_row1 hrr (by omega) hy) | refine ⟨⟨by omega, by omega⟩, ?_⟩ | fail)
    · rw [if_neg hb] at hst
      have hb' := hb
      unfold okS at hb'
      by_cases ho : okO x.o
      · have ho' := ho
        unfold okO at ho'
        repeat' ((conv => whnf); first | (refine ⟨fun h => ?_, fun h => ?_⟩ <;> try (exfalso; first | omega | exact absurd h (by decide) | exact h rfl)) | (refine ⟨by omega, fun r hrr => ?_⟩; obtain rfl := get_row hrr hx) | refine ⟨⟨by omega, by omega⟩, ?_⟩ | refine ⟨[], rfl, trivial, congrArg (CV.int .i64) ?_⟩ | fail)
        all_goals (unfold rightF; rw [if_neg h8, ← hg, hst]; rfl)
      · have ho' := ho
        unfold okO at ho'
        repeat' ((conv => whnf); first | (refine ⟨fun h => ?_, fun h => ?_⟩ <;> try (exfalso; first | omega | exact absurd h (by decide) | exact h rfl)) | (refine ⟨by omega, fun r hrr => ?_⟩; obtain rfl := get_row hrr hx) | refine ⟨⟨by omega, by omega⟩, ?_⟩ | refine ⟨[], rfl, trivial, congrArg (CV.int .i64) ?_⟩ | fail)
        all_goals (unfold rightF; rw [if_neg h8, ← hg, hst]; rfl)
  · rw [goE_end hkl] at hg
    have htk : l.take k = l := take_end hkl
    rw [htk] at hse
    repeat' ((conv => whnf); first | (refine ⟨fun h => ?_, fun h => ?_⟩ <;> try (exfalso; first | omega | exact absurd h (by decide) | exact h rfl)) | refine ⟨[], rfl, trivial, congrArg (CV.int .i64) ?_⟩ | fail)
    all_goals (unfold rightF; rw [if_neg h8, ← hg, if_pos rfl])
    · rw [if_neg (by omega)]
    · rw [if_pos (by omega)]
theorem rright_h : Holds Tryz.prog 72 rrightS := holds_of mix Tryz.func72 rrightLow (fun _ => rfl) rrightV

end Go.Proofs.YtpkhannkbafimaaGreat
