/- Tariffs. -/
import Derived.Test.YtbglmocgijlomaaT8
namespace Go.Proofs.Ytbglmocgijlomaa
open Go.RowKit

/-! skiarea/skiarearef33.rate -/
def rrateIr : IFn := ⟨56, [.tmp 4],
  (.seq (.ops [
    ⟨(some 4), .mov, [.const (.int .i64 0)], none⟩] false)
  (.seq (.ops [
    ⟨(some 7), .mov, [.tmp 0], none⟩,
    ⟨(some 8), .mov, [.tmp 1], none⟩,
    ⟨(some 9), .idx 4, [.tmp 7, .tmp 8], none⟩,
    ⟨(some 10), .load 4 true, [.tmp 9], none⟩,
    ⟨(some 5), .alloc [.int .i64 0, .int .i64 0, .int .i64 0, .nil], [], none⟩,
    ⟨none, .store 4, [.tmp 5, .tmp 10], none⟩] false)
  (.seq (.seq (.ops [
    ⟨(some 11), .faddr 0, [.tmp 5], none⟩,
    ⟨(some 12), .load 1 false, [.tmp 11], none⟩,
    ⟨(some 13), .cmp .lss, [.tmp 12, .const (.int .i64 1)], none⟩,
    ⟨(some 14), .mov, [.tmp 13], none⟩,
    ⟨(some 15), .faddr 0, [.tmp 5], (some (14, false))⟩,
    ⟨(some 16), .load 1 false, [.tmp 15], (some (14, false))⟩,
    ⟨(some 17), .cmp .gtr, [.tmp 16, .const (.int .i64 9999)], (some (14, false))⟩,
    ⟨(some 18), .pick, [.tmp 14, .const (.bool true), .tmp 17], none⟩,
    ⟨(some 19), .mov, [.tmp 18], none⟩,
    ⟨(some 20), .faddr 1, [.tmp 5], (some (19, false))⟩,
    ⟨(some 21), .load 1 false, [.tmp 20], (some (19, false))⟩,
    ⟨(some 22), .cmp .lss, [.tmp 21, .const (.int .i64 1)], (some (19, false))⟩,
    ⟨(some 23), .pick, [.tmp 19, .const (.bool true), .tmp 22], none⟩,
    ⟨(some 24), .mov, [.tmp 23], none⟩,
    ⟨(some 25), .faddr 1, [.tmp 5], (some (24, false))⟩,
    ⟨(some 26), .load 1 false, [.tmp 25], (some (24, false))⟩,
    ⟨(some 27), .cmp .gtr, [.tmp 26, .const (.int .i64 10000)], (some (24, false))⟩,
    ⟨(some 28), .pick, [.tmp 24, .const (.bool true), .tmp 27], none⟩,
    ⟨(some 29), .mov, [.tmp 28], none⟩,
    ⟨(some 30), .faddr 2, [.tmp 5], (some (29, false))⟩,
    ⟨(some 31), .load 1 false, [.tmp 30], (some (29, false))⟩,
    ⟨(some 32), .cmp .lss, [.tmp 31, .const (.int .i64 0)], (some (29, false))⟩,
    ⟨(some 33), .pick, [.tmp 29, .const (.bool true), .tmp 32], none⟩,
    ⟨(some 34), .mov, [.tmp 33], none⟩,
    ⟨(some 35), .faddr 2, [.tmp 5], (some (34, false))⟩,
    ⟨(some 36), .load 1 false, [.tmp 35], (some (34, false))⟩,
    ⟨(some 37), .cmp .gtr, [.tmp 36, .const (.int .i64 1000)], (some (34, false))⟩,
    ⟨(some 38), .pick, [.tmp 34, .const (.bool true), .tmp 37], none⟩] false)
  (.cond (.tmp 38)
    (.seq (.ops [
      ⟨(some 4), .mov, [.const (.int .i64 2)], none⟩] false)
    .ret)
    .skip))
  (.seq (.seq (.ops [
    ⟨(some 6), .mov, [.const (.int .i64 0)], none⟩] false)
  (.block 0
    (.loop
      (.seq (.seq (.ops [
        ⟨(some 39), .mov, [.tmp 6], none⟩,
        ⟨(some 40), .mov, [.tmp 1], none⟩,
        ⟨(some 41), .cmp .lss, [.tmp 39, .tmp 40], none⟩] false)
      (.cond (.tmp 41)
        .skip
        (.exit 0)))
      (.seq (.block 1
        (.seq (.ops [
          ⟨(some 44), .mov, [.tmp 0], none⟩,
          ⟨(some 45), .mov, [.tmp 6], none⟩,
          ⟨(some 46), .idx 4, [.tmp 44, .tmp 45], none⟩,
          ⟨(some 47), .faddr 0, [.tmp 46], none⟩,
          ⟨(some 48), .load 1 false, [.tmp 47], none⟩,
          ⟨(some 49), .faddr 0, [.tmp 5], none⟩,
          ⟨(some 50), .load 1 false, [.tmp 49], none⟩,
          ⟨(some 51), .cmp .eql, [.tmp 48, .tmp 50], none⟩] true)
        (.cond (.tmp 51)
          (.seq (.ops [
            ⟨(some 4), .mov, [.const (.int .i64 7)], none⟩] false)
          .ret)
          .skip)))
      (.ops [
        ⟨(some 42), .mov, [.tmp 6], none⟩,
        ⟨(some 43), .bin .add .i64 false, [.tmp 42, .const (.int .i64 1)], none⟩,
        ⟨(some 6), .mov, [.tmp 43], none⟩] false))))))
  (.seq (.seq (.ops [
    ⟨(some 52), .faddr 3, [.tmp 5], none⟩,
    ⟨(some 53), .load 1 false, [.tmp 52], none⟩,
    ⟨(some 54), .call 68, [.tmp 53], none⟩,
    ⟨(some 55), .not, [.tmp 54], none⟩] false)
  (.cond (.tmp 55)
    (.seq (.ops [
      ⟨(some 4), .mov, [.const (.int .i64 1)], none⟩] false)
    .ret)
    .skip))
  (.seq (.ops [
    ⟨(some 4), .mov, [.const (.int .i64 0)], none⟩] false)
  .ret))))))⟩
theorem rrateLow : lowF Try.prog {} Try.f44 = some rrateIr := by kernel_rfl
def rrateS : Spec := spec (List Rate × Nat) (fun p => [L 4 (p.1.map encR), I p.2]) (fun p => (p.2 < p.1.length ∧ p.1.length ≤ 9223372036854775807) ∧ ∀ y ∈ p.1, y.peak.length ≤ 9223372036854775807) (fun p => I (rateE p.1 p.2))
theorem rrateV : fnV Try.prog rrateIr rrateS := by
  intro ⟨(l : List Rate), (k : Nat)⟩ hx
  obtain ⟨⟨hkl, hll⟩, hpks⟩ : (k < l.length ∧ l.length ≤ 9223372036854775807) ∧ ∀ y ∈ l, y.peak.length ≤ 9223372036854775807 := hx
  have hl : (l.map encR).length = l.length := List.length_map ..
  obtain ⟨x, hx⟩ := getElem_some hkl
  have hpk : x.peak.length ≤ 9223372036854775807 := by have := hpks x (List.mem_of_getElem? hx); omega
  have hE : rateE l k = if ¬ rateP x then 2 else if twiceB l k x.l = true then 7 else if rightF x.peak = false then 1 else 0 := by unfold rateE; rw [at_of hx]
  show vc _ _ _ _ ⟨argEnv 0 [L 4 (l.map encR), I k], [], 0⟩
  by_cases hp : rateP x
  · rw [if_neg (Decidable.not_not.2 hp)] at hE
    have hp' := hp
    unfold rateP at hp'
    repeat' ((conv => whnf); first | (refine ⟨fun h => ?_, fun h => ?_⟩ <;> try (exfalso; first | omega | exact absurd h (by decide) | exact h rfl)) | (refine ⟨by omega, fun r hrr => ?_⟩; first | ((have hre : r = encR x := by (first | exact get_row hrr hx | fail)); subst hre)) | fail | fail)
    refine ⟨Nat, fun xq => ⟨[(0, L 4 (l.map encR)), (1, I k), (5, .bp 0 0), (6, I xq)], [(0, .box ((encR x).map .c))], 1⟩, fun xq => xq ≤ k ∧ ∀ y ∈ l.take xq, decide (y.l = x.l) = false, fun xq => k - xq, ⟨0, ?_, [], ⟨⟨rfl, rfl⟩, ⟨⟨rfl, rfl⟩, ⟨⟨rfl, rfl⟩, ⟨⟨rfl, rfl⟩, trivial⟩⟩⟩⟩, ⟨⟨rfl, rfl, rfl⟩, trivial⟩, rfl, rfl, rfl⟩, ?_⟩
    · (try dsimp only); exact ⟨Nat.zero_le _, by simp⟩
    rintro i hk
    obtain ⟨hi, hn⟩ : i ≤ k ∧ ∀ y ∈ l.take i, decide (y.l = x.l) = false := hk
    (try dsimp only)
    by_cases hik : i < k
    · obtain ⟨y, hy⟩ := getElem_some (show i < l.length by omega)
      by_cases hyx : y.l = x.l
      · repeat' ((conv => whnf); first | (refine ⟨fun h => ?_, fun h => ?_⟩ <;> try (exfalso; first | omega | exact absurd h (by decide) | exact h rfl)) | (refine ⟨by omega, fun r hrr => ?_⟩; first | ((have hre : r = encR y := by (first | exact get_row hrr hy | fail)); subst hre)) | refine ⟨⟨by omega, by omega⟩, ?_⟩ | fail | fail)
        all_goals (refine ⟨[], rfl, trivial, congrArg (CV.int .i64) ?_⟩; exact (hE.trans (if_pos (twice_yes hik hy hyx))).symm)
      · repeat' ((conv => whnf); first | (refine ⟨fun h => ?_, fun h => ?_⟩ <;> try (exfalso; first | omega | exact absurd h (by decide) | exact h rfl)) | (refine ⟨by omega, fun r hrr => ?_⟩; first | ((have hre : r = encR y := by (first | exact get_row hrr hy | fail)); subst hre)) | (refine ⟨i + 1, ⟨?_, by (try dsimp only); omega⟩, [], ⟨⟨rfl, rfl⟩, ⟨⟨rfl, rfl⟩, ⟨⟨rfl, rfl⟩, ⟨⟨rfl, rfl⟩, trivial⟩⟩⟩⟩, ⟨⟨rfl, rfl, rfl⟩, trivial⟩, rfl, rfl, rfl⟩; (try dsimp only); exact ⟨by omega, first_step hy hn (decide_eq_false hyx)⟩) | refine ⟨⟨by omega, by omega⟩, ?_⟩ | fail)
    · have hik : i = k := by omega
      subst hik
      rw [if_neg (by rw [twice_no hn]; decide)] at hE
      cases hr : rightF x.peak with
      | false =>
        repeat' ((conv => whnf); first | (refine ⟨fun h => ?_, fun h => ?_⟩ <;> try (exfalso; first | omega | exact absurd h (by decide) | exact h rfl)) | (refine ⟨_, rright_h, x.peak, hpk, leVs_of_eq rfl, .inl rfl, rfl, ?_⟩; show norm (B (rightF x.peak)) _; rw [hr]) | fail | fail)
        all_goals (refine ⟨[], rfl, trivial, congrArg (CV.int .i64) ?_⟩; exact (hE.trans (if_pos hr)).symm)
      | true =>
        repeat' ((conv => whnf); first | (refine ⟨fun h => ?_, fun h => ?_⟩ <;> try (exfalso; first | omega | exact absurd h (by decide) | exact h rfl)) | (refine ⟨_, rright_h, x.peak, hpk, leVs_of_eq rfl, .inl rfl, rfl, ?_⟩; show norm (B (rightF x.peak)) _; rw [hr]) | fail | fail)
        all_goals (refine ⟨[], rfl, trivial, congrArg (CV.int .i64) ?_⟩; exact (hE.trans (if_neg (by rw [hr]; decide))).symm)
  · have hp' := hp
    unfold rateP at hp'
    repeat' ((conv => whnf); first | (refine ⟨fun h => ?_, fun h => ?_⟩ <;> try (exfalso; first | omega | exact absurd h (by decide) | exact h rfl)) | (refine ⟨by omega, fun r hrr => ?_⟩; first | ((have hre : r = encR x := by (first | exact get_row hrr hx | fail)); subst hre)) | fail | fail)
    all_goals (refine ⟨[], rfl, trivial, congrArg (CV.int .i64) ?_⟩; exact (hE.trans (if_pos hp)).symm)
theorem rrate_h : Holds Try.prog 44 rrateS := holds_of mix Try.func44 rrateLow (fun _ => rfl) rrateV

/-! skiarea/skiarearef33.At -/
def ratIr : IFn := ⟨26, [.cell 4 2 true, .tmp 5],
  (.seq (.ops [
    ⟨(some 4), .alloc [.int .i64 0, .nil], [], none⟩,
    ⟨(some 5), .mov, [.const (.bool false)], none⟩] false)
  (.seq (.seq (.ops [
    ⟨(some 7), .mov, [.tmp 0], none⟩,
    ⟨(some 8), .len, [.tmp 7], none⟩,
    ⟨(some 9), .bin .sub .i64 false, [.tmp 8, .const (.int .i64 1)], none⟩,
    ⟨(some 6), .mov, [.tmp 9], none⟩] false)
  (.block 0
    (.loop
      (.seq (.seq (.ops [
        ⟨(some 10), .mov, [.tmp 6], none⟩,
        ⟨(some 11), .cmp .geq, [.tmp 10, .const (.int .i64 0)], none⟩] false)
      (.cond (.tmp 11)
        .skip
        (.exit 0)))
      (.seq (.block 1
        (.seq (.ops [
          ⟨(some 14), .mov, [.tmp 0], none⟩,
          ⟨(some 15), .mov, [.tmp 6], none⟩,
          ⟨(some 16), .idx 2, [.tmp 14, .tmp 15], none⟩,
          ⟨(some 17), .faddr 0, [.tmp 16], none⟩,
          ⟨(some 18), .load 1 false, [.tmp 17], none⟩,
          ⟨(some 19), .mov, [.tmp 1], none⟩,
          ⟨(some 20), .cmp .leq, [.tmp 18, .tmp 19], none⟩] false)
        (.cond (.tmp 20)
          (.seq (.ops [
            ⟨(some 21), .mov, [.tmp 0], none⟩,
            ⟨(some 22), .mov, [.tmp 6], none⟩,
            ⟨(some 23), .idx 2, [.tmp 21, .tmp 22], none⟩,
            ⟨(some 24), .load 2 true, [.tmp 23], none⟩,
            ⟨none, .store 2, [.tmp 4, .tmp 24], none⟩,
            ⟨(some 5), .mov, [.const (.bool true)], none⟩] false)
          .ret)
          .skip)))
      (.ops [
        ⟨(some 12), .mov, [.tmp 6], none⟩,
        ⟨(some 13), .bin .sub .i64 false, [.tmp 12, .const (.int .i64 1)], none⟩,
        ⟨(some 6), .mov, [.tmp 13], none⟩] false))))))
  (.seq (.ops [
    ⟨(some 25), .build [.int .i64 0, .nil] [], [], none⟩,
    ⟨none, .store 2, [.tmp 4, .tmp 25], none⟩,
    ⟨(some 5), .mov, [.const (.bool false)], none⟩] false)
  .ret)))⟩
theorem ratLow : lowF Try.prog {} Try.f49 = some ratIr := by kernel_rfl
def ratS : Spec := spec (List Tariff × Int) (fun p => [L 2 (p.1.map encT), I p.2]) (fun p => p.1.length ≤ 1000000) (fun p => foundT encT tar0 (tarAt p.1 p.2 p.1.length))
theorem ratV : fnV Try.prog ratIr ratS := by
  intro ⟨(l : List Tariff), (t : Int)⟩ hx
  replace hx : l.length ≤ 1000000 := hx
  have hl : (l.map encT).length = l.length := List.length_map ..
  show vc _ _ _ _ ⟨argEnv 0 [L 2 (l.map encT), I t], [], 0⟩
  repeat' ((conv => whnf); first | (refine ⟨fun h => ?_, fun h => ?_⟩ <;> try (exfalso; first | omega | exact absurd h (by decide) | exact h rfl)) | refine ⟨⟨by omega, by omega⟩, ?_⟩ | fail | fail)
  refine ⟨Int, fun xq => ⟨[(0, L 2 (l.map encT)), (1, I t), (4, .bp 0 0), (6, I xq)], [(0, .box [.c (.int .i64 0), .c .nil])], 1⟩, fun xq => ∃ j : Nat, (xq = (j : Int) - 1 ∧ j ≤ l.length) ∧ tarAt l t l.length = tarAt l t j, fun xq => (xq + 1).toNat, ⟨_, ?_, [], ⟨⟨rfl, rfl⟩, ⟨⟨rfl, rfl⟩, ⟨⟨rfl, rfl⟩, ⟨⟨rfl, rfl⟩, trivial⟩⟩⟩⟩, ⟨⟨rfl, rfl, rfl⟩, trivial⟩, rfl, rfl, rfl⟩, ?_⟩
  · (try dsimp only); exact ⟨l.length, ⟨by omega, Nat.le_refl _⟩, rfl⟩
  rintro i hk
  obtain ⟨j, ⟨hij, hjl⟩, hT⟩ : ∃ j : Nat, (i = (j : Int) - 1 ∧ j ≤ l.length) ∧ tarAt l t l.length = tarAt l t j := hk
  (try dsimp only)
  cases j with
  | zero =>
    repeat' ((conv => whnf); first | (refine ⟨fun h => ?_, fun h => ?_⟩ <;> try (exfalso; first | omega | exact absurd h (by decide) | exact h rfl)) | fail | fail)
    all_goals (refine ⟨[], rfl, trivial, ?_⟩; show leR _ (foundT encT tar0 (tarAt l t l.length)); rw [hT.trans (rfl : tarAt l t 0 = none)]; first | exact ⟨leV_refl _, rfl, trivial⟩ | exact ⟨⟨rfl, rfl, trivial⟩, rfl, trivial⟩)
  | succ j =>
    obtain ⟨x, hx⟩ := getElem_some (show j < l.length by omega)
    have hF : inForce l t j = decide (x.frm ≤ t) := by unfold inForce; rw [at_of hx]
    by_cases hle : x.frm ≤ t
    · have hT' := hT.trans (tarAt_yes (hF.trans (decide_eq_true hle)))
      rw [at_of hx] at hT'
      repeat' ((conv => whnf); first | (refine ⟨fun h => ?_, fun h => ?_⟩ <;> try (exfalso; first | omega | exact absurd h (by decide) | exact h rfl)) | (refine ⟨by omega, fun r hrr => ?_⟩; ((have hre : r = encT x := by (first | exact get_rowi (j := j) hrr (by omega) hx | fail)); subst hre)) | fail | fail)
      all_goals (refine ⟨[], rfl, trivial, ?_⟩; show leR _ (foundT encT tar0 (tarAt l t l.length)); rw [hT']; first | exact ⟨leV_refl _, rfl, trivial⟩ | exact ⟨⟨rfl, rfl, trivial⟩, rfl, trivial⟩)
    · repeat' ((conv => whnf); first | (refine ⟨fun h => ?_, fun h => ?_⟩ <;> try (exfalso; first | omega | exact absurd h (by decide) | exact h rfl)) | (refine ⟨by omega, fun r hrr => ?_⟩; ((have hre : r = encT x := by (first | exact get_rowi (j := j) hrr (by omega) hx | fail)); subst hre)) | (refine ⟨_, ⟨?_, by (try dsimp only); omega⟩, [], ⟨⟨rfl, rfl⟩, ⟨⟨rfl, rfl⟩, ⟨⟨rfl, rfl⟩, ⟨⟨rfl, rfl⟩, trivial⟩⟩⟩⟩, ⟨⟨rfl, rfl, rfl⟩, trivial⟩, rfl, rfl, rfl⟩; (try dsimp only); exact ⟨j, ⟨by omega, by omega⟩, hT.trans (tarAt_no (hF.trans (decide_eq_false hle)))⟩) | refine ⟨⟨by omega, by omega⟩, ?_⟩ | fail)
theorem rat_h : Holds Try.prog 49 ratS := holds_of mix Try.func49 ratLow (fun _ => rfl) ratV

/-! skiarea/tariff.index -/
def tidxIr : IFn := ⟨21, [.tmp 4],
  (.seq (.ops [
    ⟨(some 4), .mov, [.const (.int .i64 0)], none⟩] false)
  (.seq (.seq (.ops [
    ⟨(some 6), .mov, [.tmp 0], none⟩,
    ⟨(some 7), .len, [.tmp 6], none⟩,
    ⟨(some 8), .bin .sub .i64 false, [.tmp 7, .const (.int .i64 1)], none⟩,
    ⟨(some 5), .mov, [.tmp 8], none⟩] false)
  (.block 0
    (.loop
      (.seq (.seq (.ops [
        ⟨(some 9), .mov, [.tmp 5], none⟩,
        ⟨(some 10), .cmp .geq, [.tmp 9, .const (.int .i64 0)], none⟩] false)
      (.cond (.tmp 10)
        .skip
        (.exit 0)))
      (.seq (.block 1
        (.seq (.ops [
          ⟨(some 13), .mov, [.tmp 0], none⟩,
          ⟨(some 14), .mov, [.tmp 5], none⟩,
          ⟨(some 15), .idx 2, [.tmp 13, .tmp 14], none⟩,
          ⟨(some 16), .faddr 0, [.tmp 15], none⟩,
          ⟨(some 17), .load 1 false, [.tmp 16], none⟩,
          ⟨(some 18), .mov, [.tmp 1], none⟩,
          ⟨(some 19), .cmp .leq, [.tmp 17, .tmp 18], none⟩] false)
        (.cond (.tmp 19)
          (.seq (.ops [
            ⟨(some 20), .mov, [.tmp 5], none⟩,
            ⟨(some 4), .mov, [.tmp 20], none⟩] false)
          .ret)
          .skip)))
      (.ops [
        ⟨(some 11), .mov, [.tmp 5], none⟩,
        ⟨(some 12), .bin .sub .i64 false, [.tmp 11, .const (.int .i64 1)], none⟩,
        ⟨(some 5), .mov, [.tmp 12], none⟩] false))))))
  (.seq (.ops [
    ⟨(some 4), .mov, [.const (.int .i64 (-1))], none⟩] false)
  .ret)))⟩
theorem tidxLow : lowF Try.prog {} Try.f47 = some tidxIr := by kernel_rfl
def tidxS : Spec := spec (List Tariff × Int) (fun p => [L 2 (p.1.map encT), I p.2]) (fun p => p.1.length ≤ 1000000) (fun p => I (lastB (inForce p.1 p.2) p.1.length))
theorem tidxV : fnV Try.prog tidxIr tidxS := by
  intro ⟨(l : List Tariff), (t : Int)⟩ hx
  replace hx : l.length ≤ 1000000 := hx
  have hl : (l.map encT).length = l.length := List.length_map ..
  show vc _ _ _ _ ⟨argEnv 0 [L 2 (l.map encT), I t], [], 0⟩
  repeat' ((conv => whnf); first | (refine ⟨fun h => ?_, fun h => ?_⟩ <;> try (exfalso; first | omega | exact absurd h (by decide) | exact h rfl)) | refine ⟨⟨by omega, by omega⟩, ?_⟩ | fail | fail)
  refine ⟨Int, fun xq => ⟨[(0, L 2 (l.map encT)), (1, I t), (5, I xq)], [], 0⟩, fun xq => ∃ j : Nat, (xq = (j : Int) - 1 ∧ j ≤ l.length) ∧ lastB (inForce l t) l.length = lastB (inForce l t) j, fun xq => (xq + 1).toNat, ⟨_, ?_, [], ⟨⟨rfl, rfl⟩, ⟨⟨rfl, rfl⟩, ⟨⟨rfl, rfl⟩, trivial⟩⟩⟩, trivial, rfl, rfl, rfl⟩, ?_⟩
  · (try dsimp only); exact ⟨l.length, ⟨by omega, Nat.le_refl _⟩, rfl⟩
  rintro i hk
  obtain ⟨j, ⟨hij, hjl⟩, hT⟩ : ∃ j : Nat, (i = (j : Int) - 1 ∧ j ≤ l.length) ∧ lastB (inForce l t) l.length = lastB (inForce l t) j := hk
  (try dsimp only)
  cases j with
  | zero =>
    repeat' ((conv => whnf); first | (refine ⟨fun h => ?_, fun h => ?_⟩ <;> try (exfalso; first | omega | exact absurd h (by decide) | exact h rfl)) | fail | fail)
    all_goals (refine ⟨[], rfl, trivial, congrArg (CV.int .i64) ?_⟩; exact (hT).symm)
  | succ j =>
    obtain ⟨x, hx⟩ := getElem_some (show j < l.length by omega)
    have hF : inForce l t j = decide (x.frm ≤ t) := by unfold inForce; rw [at_of hx]
    by_cases hle : x.frm ≤ t
    · have hT' := hT.trans (lastB_yes (hF.trans (decide_eq_true hle)))
      have hij' : i = j := by omega
      repeat' ((conv => whnf); first | (refine ⟨fun h => ?_, fun h => ?_⟩ <;> try (exfalso; first | omega | exact absurd h (by decide) | exact h rfl)) | (refine ⟨by omega, fun r hrr => ?_⟩; ((have hre : r = encT x := by (first | exact get_rowi (j := j) hrr (by omega) hx | fail)); subst hre)) | fail | fail)
      all_goals (refine ⟨[], rfl, trivial, congrArg (CV.int .i64) ?_⟩; exact (hT'.trans hij'.symm).symm)
    · repeat' ((conv => whnf); first | (refine ⟨fun h => ?_, fun h => ?_⟩ <;> try (exfalso; first | omega | exact absurd h (by decide) | exact h rfl)) | (refine ⟨by omega, fun r hrr => ?_⟩; ((have hre : r = encT x := by (first | exact get_rowi (j := j) hrr (by omega) hx | fail)); subst hre)) | (refine ⟨_, ⟨?_, by (try dsimp only); omega⟩, [], ⟨⟨rfl, rfl⟩, ⟨⟨rfl, rfl⟩, ⟨⟨rfl, rfl⟩, trivial⟩⟩⟩, trivial, rfl, rfl, rfl⟩; (try dsimp only); exact ⟨j, ⟨by omega, by omega⟩, hT.trans (lastB_no (hF.trans (decide_eq_false hle)))⟩) | refine ⟨⟨by omega, by omega⟩, ?_⟩ | fail)
theorem tidx_h : Holds Try.prog 47 tidxS := holds_of mix Try.func47 tidxLow (fun _ => rfl) tidxV

end Go.Proofs.Ytbglmocgijlomaa
