/- Netting: settling a group. -/
import Derived.Test.YtpkhannkbafimaaGreatF7
import Derived.Test.YtpkhannkbafimaaGreatPA
namespace Go.Proofs.YtpkhannkbafimaaGreat
open Go.RowKit

/-! cmp.isNaN[int] -/
def isNaNIr : IFn := ⟨6, [.tmp 2],
 (.seq (.ops [
 ⟨(some 2), .mov, [.const (.bool false)], none⟩] false)
 (.seq (.ops [
 ⟨(some 3), .mov, [.tmp 0], none⟩,
 ⟨(some 4), .mov, [.tmp 0], none⟩,
 ⟨(some 5), .cmp .neq, [.tmp 3, .tmp 4], none⟩,
 ⟨(some 2), .mov, [.tmp 5], none⟩] false)
 .ret))⟩
theorem isNaNLow : lowF Tryz.prog {} Tryz.f87 = some isNaNIr := by kernel_rfl
def isNaNS : Spec := spec Int (fun n => [I n]) (fun _ => True) (fun _ => B false)
theorem isNaNV [DrFlag] : fnV Tryz.prog isNaNIr isNaNS := by
  intro (x : Int) hx
  repeat' ((conv => whnf); first | (refine ⟨fun h => ?_, fun h => ?_⟩ <;> try (exfalso; omega)) | refine ⟨[], rfl, trivial, congrArg CV.bool ?_⟩ | refine ⟨[], rfl, trivial, congrArg (CV.int .i64) ?_⟩ | refine ⟨⟨by omega, by omega⟩, ?_⟩ | refine ⟨by omega, ?_⟩ | fail)
  rfl
theorem isNaN_h [DrFlag] : Holds Tryz.prog 87 isNaNS := holds_of mix Tryz.func87 isNaNLow (fun _ => rfl) isNaNV

/-! cmp.Compare[int] -/
def compareIr : IFn := ⟨20, [.tmp 4],
 (.seq (.ops [
 ⟨(some 4), .mov, [.const (.int .i64 0)], none⟩] false)
 (.seq (.ops [
 ⟨(some 7), .mov, [.tmp 0], none⟩,
 ⟨(some 8), .call 87, [.tmp 7], none⟩,
 ⟨(some 5), .mov, [.tmp 8], none⟩] false)
 (.seq (.ops [
 ⟨(some 9), .mov, [.tmp 1], none⟩,
 ⟨(some 10), .call 87, [.tmp 9], none⟩,
 ⟨(some 6), .mov, [.tmp 10], none⟩] false)
 (.seq (.seq (.ops [
 ⟨(some 11), .mov, [.tmp 5], none⟩] false)
 (.cond (.tmp 11)
 (.seq (.seq (.ops [
 ⟨(some 12), .mov, [.tmp 6], none⟩] false)
 (.cond (.tmp 12)
 (.seq (.ops [
 ⟨(some 4), .mov, [.const (.int .i64 0)], none⟩] false)
 .ret)
 .skip))
 (.seq (.ops [
 ⟨(some 4), .mov, [.const (.int .i64 (-1))], none⟩] false)
 .ret))
 .skip))
 (.seq (.seq (.ops [
 ⟨(some 13), .mov, [.tmp 6], none⟩] false)
 (.cond (.tmp 13)
 (.seq (.ops [
 ⟨(some 4), .mov, [.const (.int .i64 1)], none⟩] false)
 .ret)
 .skip))
 (.seq (.seq (.ops [
 ⟨(some 14), .mov, [.tmp 0], none⟩,
 ⟨(some 15), .mov, [.tmp 1], none⟩,
 ⟨(some 16), .cmp .lss, [.tmp 14, .tmp 15], none⟩] false)
 (.cond (.tmp 16)
 (.seq (.ops [
 ⟨(some 4), .mov, [.const (.int .i64 (-1))], none⟩] false)
 .ret)
 .skip))
 (.seq (.seq (.ops [
 ⟨(some 17), .mov, [.tmp 0], none⟩,
 ⟨(some 18), .mov, [.tmp 1], none⟩,
 ⟨(some 19), .cmp .gtr, [.tmp 17, .tmp 18], none⟩] false)
 (.cond (.tmp 19)
 (.seq (.ops [
 ⟨(some 4), .mov, [.const (.int .i64 1)], none⟩] false)
 .ret)
 .skip))
 (.seq (.ops [
 ⟨(some 4), .mov, [.const (.int .i64 0)], none⟩] false)
 .ret))))))))⟩
theorem compareLow : lowF Tryz.prog {} Tryz.f60 = some compareIr := by kernel_rfl
def compareS : Spec := spec (Int × Int) (fun p => [I p.1, I p.2]) (fun _ => True) (fun p => I (cmpI p.1 p.2))
theorem compareV [DrFlag] : fnV Tryz.prog compareIr compareS := by
  intro ⟨x, y⟩ hx
  repeat' ((conv => whnf); first | (refine ⟨fun h => ?_, fun h => ?_⟩ <;> try (exfalso; omega)) | refine ⟨_, isNaN_h, _, trivial, leVs_of_eq rfl, .inr rfl, rfl, ?_⟩ | refine ⟨[], rfl, trivial, congrArg CV.bool ?_⟩ | refine ⟨[], rfl, trivial, congrArg (CV.int .i64) ?_⟩ | refine ⟨⟨by omega, by omega⟩, ?_⟩ | refine ⟨by omega, ?_⟩ | fail)
  all_goals (unfold cmpI; (repeat split) <;> first | rfl | omega | contradiction)
theorem compare_h [DrFlag] : Holds Tryz.prog 60 compareS := holds_of mix Tryz.func60 compareLow (fun _ => rfl) compareV

/-! cmp.Or[int] -/
def orIr : IFn := ⟨18, [.tmp 2],
 (.seq (.ops [
 ⟨(some 2), .mov, [.const (.int .i64 0)], none⟩] false)
 (.seq (.ops [
 ⟨(some 3), .mov, [.const (.int .i64 0)], none⟩] false)
 (.seq (.seq (.ops [
 ⟨(some 6), .mov, [.tmp 0], none⟩,
 ⟨(some 7), .len, [.tmp 6], none⟩,
 ⟨(some 8), .mov, [.const (.int .i64 0)], none⟩] false)
 (.block 0
 (.loop
 (.seq (.ops [
 ⟨(some 9), .cmp .lss, [.tmp 8, .tmp 7], none⟩] false)
 (.seq (.cond (.tmp 9)
 .skip
 (.exit 0))
 (.seq (.block 1
 (.seq (.ops [
 ⟨(some 10), .idx 1, [.tmp 6, .tmp 8], none⟩,
 ⟨(some 11), .load 1 false, [.tmp 10], none⟩,
 ⟨(some 5), .mov, [.tmp 11], none⟩] false)
 (.seq (.ops [
 ⟨(some 12), .mov, [.tmp 5], none⟩,
 ⟨(some 13), .mov, [.tmp 3], none⟩,
 ⟨(some 14), .cmp .neq, [.tmp 12, .tmp 13], none⟩] false)
 (.cond (.tmp 14)
 (.seq (.ops [
 ⟨(some 15), .mov, [.tmp 5], none⟩,
 ⟨(some 2), .mov, [.tmp 15], none⟩] false)
 .ret)
 .skip))))
 (.ops [
 ⟨(some 16), .bin .add .i64 false, [.tmp 8, .const (.int .i64 1)], none⟩,
 ⟨(some 8), .mov, [.tmp 16], none⟩] false)))))))
 (.seq (.ops [
 ⟨(some 17), .mov, [.tmp 3], none⟩,
 ⟨(some 2), .mov, [.tmp 17], none⟩] false)
 .ret))))⟩
theorem orLow : lowF Tryz.prog {} Tryz.f59 = some orIr := by kernel_rfl
def orS : Spec := spec (List Int) (fun l => [L 1 (l.map cI)]) (fun l => l.length ≤ 1000) (fun l => I (orI l))
theorem orV [DrFlag] : fnV Tryz.prog orIr orS := by
  intro (xs : List Int) hx
  replace hx : xs.length ≤ 1000 := hx
  have hl : (xs.map cI).length = xs.length := List.length_map ..
  conv => whnf
  refine ⟨Nat, fun k => ⟨[(6, L 1 (xs.map cI)), (7, I (xs.map cI).length), (8, I k), (3, I 0)], [], 0⟩, fun k => k ≤ xs.length ∧ orI xs = orI (xs.drop k), fun k => xs.length - k, ⟨0, ⟨by omega, by simp⟩, [], ⟨⟨rfl, rfl⟩, ⟨⟨rfl, rfl⟩, ⟨⟨rfl, rfl⟩, ⟨⟨rfl, rfl⟩, trivial⟩⟩⟩⟩, trivial, rfl, rfl, rfl⟩, fun k hk => ?_⟩
  obtain ⟨hk, ho⟩ := hk
  conv => whnf
  refine ⟨fun h => ?_, fun h => ?_⟩
  · conv => whnf
    refine ⟨by omega, fun r hr => ?_⟩
    obtain ⟨x, hx', rfl⟩ := map_get hr
    rw [Int.toNat_natCast] at hx'
    have hs := orI_step hx'
    conv => whnf
    refine ⟨fun h0 => ?_, fun h0 => ?_⟩
    · conv => whnf
      refine ⟨[], rfl, trivial, congrArg (CV.int .i64) ?_⟩
      rw [ho, hs, if_neg h0]
    · conv => whnf
      refine ⟨⟨by omega, by omega⟩, ?_⟩
      conv => whnf
      refine ⟨k + 1, ⟨⟨by omega, by rw [ho, hs, if_pos (Decidable.not_not.1 h0)]⟩, by (try dsimp only); omega⟩, [], ⟨⟨rfl, rfl⟩, ⟨⟨rfl, rfl⟩, ⟨⟨rfl, rfl⟩, ⟨⟨rfl, rfl⟩, trivial⟩⟩⟩⟩, trivial, rfl, rfl, rfl⟩
  · conv => whnf
    refine ⟨[], rfl, trivial, congrArg (CV.int .i64) ?_⟩
    rw [ho, List.drop_eq_nil_of_le (by omega), orI]
theorem or_h [DrFlag] : Holds Tryz.prog 59 orS := holds_of mix Tryz.func59 orLow (fun _ => rfl) orV

/-! skiarea/netting.Net$1 -/
def orderIr : IFn := ⟨17, [.tmp 4],
 (.seq (.ops [
 ⟨(some 2), .box, [.tmp 0], none⟩,
 ⟨(some 3), .box, [.tmp 1], none⟩,
 ⟨(some 4), .mov, [.const (.int .i64 0)], none⟩] false)
 (.seq (.ops [
 ⟨(some 5), .faddr 0, [.tmp 2], none⟩,
 ⟨(some 6), .load 1 false, [.tmp 5], none⟩,
 ⟨(some 7), .faddr 0, [.tmp 3], none⟩,
 ⟨(some 8), .load 1 false, [.tmp 7], none⟩,
 ⟨(some 9), .call 60, [.tmp 6, .tmp 8], none⟩,
 ⟨(some 10), .faddr 1, [.tmp 2], none⟩,
 ⟨(some 11), .load 1 false, [.tmp 10], none⟩,
 ⟨(some 12), .faddr 1, [.tmp 3], none⟩,
 ⟨(some 13), .load 1 false, [.tmp 12], none⟩,
 ⟨(some 14), .call 60, [.tmp 11, .tmp 13], none⟩,
 ⟨(some 15), .buildSl 3 1, [.tmp 9, .tmp 14], none⟩,
 ⟨(some 16), .call 59, [.tmp 15], none⟩,
 ⟨(some 4), .mov, [.tmp 16], none⟩] true)
 .ret))⟩
theorem orderLow : lowF Tryz.prog {} Tryz.f90 = some orderIr := by kernel_rfl
def orderS : Spec := spec (Tfer × Tfer) (fun p => [aT p.1, aT p.2]) (fun _ => True) (fun p => I (cmpT p.1 p.2))
theorem orderV [DrFlag] : fnV Tryz.prog orderIr orderS := by
  intro ⟨x, y⟩ hx
  repeat' ((conv => whnf); first | (refine ⟨fun h => ?_, fun h => ?_⟩ <;> try (exfalso; omega)) | refine ⟨_, compare_h, (_, _), trivial, leVs_of_eq rfl, .inr rfl, rfl, ?_⟩ | refine ⟨_, or_h, [_, _], (by show (2 : Nat) ≤ 1000; omega), leVs_of_eq rfl, .inr rfl, rfl, ?_⟩ | refine ⟨[], rfl, trivial, congrArg CV.bool ?_⟩ | refine ⟨[], rfl, trivial, congrArg (CV.int .i64) ?_⟩ | refine ⟨⟨by omega, by omega⟩, ?_⟩ | refine ⟨by omega, ?_⟩ | fail)
  all_goals rfl
theorem order_h [DrFlag] : Holds Tryz.prog 90 orderS := holds_of mix Tryz.func90 orderLow (fun _ => rfl) orderV

def settleS : GSpec := ⟨List Share, fun g => [.row 58 2 (g.map encS)], fun _ => [.osl 0], fun g => Grp g ∧ (g.map (·.o)).Nodup, fun g => L 3 ((settleG g).map encT), fun _ => [.dead], fun _ => []⟩

/-! skiarea/netting.settle -/
def settleIr : IFn := ⟨63, [.tmp 2],
 (.seq (.ops [
 ⟨(some 2), .mov, [.const (.slice none 0 0)], none⟩] false)
 (.seq (.ops [
 ⟨(some 3), .nilOwn 68 3, [], none⟩] false)
 (.block 0
 (.loop
 (.block 1
 (.seq (.ops [
 ⟨(some 7), .mov, [.tmp 0], none⟩,
 ⟨(some 8), .call 113, [.tmp 7, .func 114], none⟩,
 ⟨(some 4), .mov, [.tmp 8], none⟩] false)
 (.seq (.ops [
 ⟨(some 9), .mov, [.tmp 0], none⟩,
 ⟨(some 10), .call 113, [.tmp 9, .func 115], none⟩,
 ⟨(some 5), .mov, [.tmp 10], none⟩] false)
 (.seq (.seq (.ops [
 ⟨(some 11), .mov, [.tmp 4], none⟩,
 ⟨(some 12), .cmp .lss, [.tmp 11, .const (.int .i64 0)], none⟩,
 ⟨(some 13), .mov, [.tmp 12], none⟩,
 ⟨(some 14), .mov, [.tmp 5], (some (13, false))⟩,
 ⟨(some 15), .cmp .lss, [.tmp 14, .const (.int .i64 0)], (some (13, false))⟩,
 ⟨(some 16), .pick, [.tmp 13, .const (.bool true), .tmp 15], none⟩] false)
 (.cond (.tmp 16)
 (.seq (.ops [
 ⟨(some 17), .mov, [.tmp 3], none⟩,
 ⟨(some 2), .mov, [.tmp 17], none⟩] false)
 .ret)
 .skip))
 (.seq (.ops [
 ⟨(some 18), .mov, [.tmp 0], none⟩,
 ⟨(some 19), .mov, [.tmp 4], none⟩,
 ⟨(some 20), .idx 2, [.tmp 18, .tmp 19], none⟩,
 ⟨(some 21), .faddr 1, [.tmp 20], none⟩,
 ⟨(some 22), .load 1 false, [.tmp 21], none⟩,
 ⟨(some 23), .neg .i64, [.tmp 22], none⟩,
 ⟨(some 24), .mov, [.tmp 0], none⟩,
 ⟨(some 25), .mov, [.tmp 5], none⟩,
 ⟨(some 26), .idx 2, [.tmp 24, .tmp 25], none⟩,
 ⟨(some 27), .faddr 1, [.tmp 26], none⟩,
 ⟨(some 28), .load 1 false, [.tmp 27], none⟩,
 ⟨(some 29), .min, [.tmp 23, .tmp 28], none⟩,
 ⟨(some 6), .mov, [.tmp 29], none⟩] true)
 (.seq (.ops [
 ⟨(some 30), .mov, [.tmp 0], none⟩,
 ⟨(some 31), .mov, [.tmp 4], none⟩,
 ⟨(some 32), .idx 2, [.tmp 30, .tmp 31], none⟩,
 ⟨(some 33), .faddr 1, [.tmp 32], none⟩,
 ⟨(some 34), .load 1 false, [.tmp 33], none⟩,
 ⟨(some 35), .mov, [.tmp 6], none⟩,
 ⟨(some 36), .bin .add .i64 false, [.tmp 34, .tmp 35], none⟩,
 ⟨(some 37), .idx 2, [.tmp 30, .tmp 31], none⟩,
 ⟨(some 38), .faddr 1, [.tmp 37], none⟩,
 ⟨none, .store 1, [.tmp 38, .tmp 36], none⟩] false)
 (.seq (.ops [
 ⟨(some 39), .mov, [.tmp 0], none⟩,
 ⟨(some 40), .mov, [.tmp 5], none⟩,
 ⟨(some 41), .idx 2, [.tmp 39, .tmp 40], none⟩,
 ⟨(some 42), .faddr 1, [.tmp 41], none⟩,
 ⟨(some 43), .load 1 false, [.tmp 42], none⟩,
 ⟨(some 44), .mov, [.tmp 6], none⟩,
 ⟨(some 45), .bin .sub .i64 false, [.tmp 43, .tmp 44], none⟩,
 ⟨(some 46), .idx 2, [.tmp 39, .tmp 40], none⟩,
 ⟨(some 47), .faddr 1, [.tmp 46], none⟩,
 ⟨none, .store 1, [.tmp 47, .tmp 45], none⟩] false)
 (.ops [
 ⟨(some 48), .mov, [.tmp 3], none⟩,
 ⟨(some 49), .mov, [.tmp 0], none⟩,
 ⟨(some 50), .mov, [.tmp 4], none⟩,
 ⟨(some 51), .idx 2, [.tmp 49, .tmp 50], none⟩,
 ⟨(some 52), .faddr 0, [.tmp 51], none⟩,
 ⟨(some 53), .load 1 false, [.tmp 52], none⟩,
 ⟨(some 54), .mov, [.tmp 0], none⟩,
 ⟨(some 55), .mov, [.tmp 5], none⟩,
 ⟨(some 56), .idx 2, [.tmp 54, .tmp 55], none⟩,
 ⟨(some 57), .faddr 0, [.tmp 56], none⟩,
 ⟨(some 58), .load 1 false, [.tmp 57], none⟩,
 ⟨(some 59), .mov, [.tmp 6], none⟩,
 ⟨(some 60), .build [.int .i64 0, .int .i64 0, .int .i64 0] [(0, 1), (1, 1), (2, 1)], [.tmp 53, .tmp 58, .tmp 59], none⟩,
 ⟨(some 61), .buildSl 68 3, [.tmp 60], none⟩,
 ⟨(some 62), .append 68 3 24, [.tmp 48, .tmp 61], none⟩,
 ⟨(some 3), .mov, [.tmp 62], none⟩] true))))))))))))⟩
theorem settleLow : lowF Tryz.prog { owns := [(3, 68)] } Tryz.f88 = some settleIr := by kernel_rfl
theorem settleV : fnG Tryz.prog settleIr settleS := by
  intro (g0 : List Share) hx
  obtain ⟨hg0, hd0⟩ : Grp g0 ∧ (g0.map fun x : Share => x.o).Nodup := hx
  show vc _ _ _ _ ⟨argEnv 0 [.osl 0], idxFrom 0 [.row 58 2 (g0.map encS)], 1⟩
  conv => whnf
  refine ⟨Nat × (List (List CV)) × (List (List CV)), fun xq => ⟨[(0, .osl 0), (3, .osl 1)], [(0, .row 58 2 xq.2.1), (1, .row 68 3 xq.2.2)], 2⟩, fun xq => ∃ (g : List Share) (O : List Tfer), (xq.2.1 = g.map encS ∧ xq.2.2 = O.map encT) ∧ (Grp g ∧ (g.map fun x : Share => x.o).Nodup) ∧ O ++ settleG g = settleG g0 ∧ O.length + nzc g ≤ 8 ∧ xq.1 = nzc g, fun xq => xq.1, ⟨(nzc g0, _, _), ?_, [], ⟨⟨rfl, rfl⟩, ⟨⟨rfl, rfl⟩, trivial⟩⟩, ⟨⟨rfl, rfl, rfl⟩, ⟨⟨rfl, rfl, rfl⟩, trivial⟩⟩, rfl, rfl, rfl⟩, ?_⟩
  · (try dsimp only); exact ⟨g0, [], ⟨rfl, rfl⟩, ⟨hg0, hd0⟩, rfl, by have := nzc_le g0; have := hg0.len; simp only [List.length_nil]; omega, rfl⟩
  rintro ⟨m, gs, es⟩ hk
  obtain ⟨g, O, ⟨rfl, rfl⟩, ⟨hg, hd⟩, hO, hn, hm⟩ : ∃ (g : List Share) (O : List Tfer), (gs = g.map encS ∧ es = O.map encT) ∧ (Grp g ∧ (g.map fun x : Share => x.o).Nodup) ∧ O ++ settleG g = settleG g0 ∧ O.length + nzc g ≤ 8 ∧ m = nzc g := hk
  (try dsimp only)
  have hlen := hg.len
  cases hs : stepS g with
  | none =>
    rw [settle_none hs, List.append_nil] at hO
    unfold stepS at hs
    cases h1 : firstI neg g with
    | none =>
      have e1 := idxI_neg.2 h1
      cases h2 : firstI pos' g with
      | none =>
        have e2 := idxI_neg.2 h2
        repeat' ((conv => whnf); first | (refine ⟨fun h => ?_, fun h => ?_⟩ <;> try (exfalso; first | omega | exact absurd h (by decide) | exact h rfl)) | (refine ⟨_, idx_h cn isn_h, g, (by show g.length ≤ 1000; omega), leVs_of_eq rfl, .inr rfl, rfl, ?_⟩; show norm (I (idxI neg g)) _; rw [show idxI neg g = idxI neg g from rfl]) | (refine ⟨_, idx_h cp isp_h, g, (by show g.length ≤ 1000; omega), leVs_of_eq rfl, .inr rfl, rfl, ?_⟩; show norm (I (idxI pos' g)) _; rw [show idxI pos' g = idxI pos' g from rfl]) | fail)
        all_goals ((conv => whnf); refine ⟨[], rfl, rfl, trivial, ?_⟩; show leV (L 3 (O.map encT)) (L 3 ((settleG g0).map encT)); rw [hO]; exact leV_refl _)
      | some q =>
        obtain ⟨j, y⟩ := q
        have e2 := idxI_some h2
        repeat' ((conv => whnf); first | (refine ⟨fun h => ?_, fun h => ?_⟩ <;> try (exfalso; first | omega | exact absurd h (by decide) | exact h rfl)) | (refine ⟨_, idx_h cn isn_h, g, (by show g.length ≤ 1000; omega), leVs_of_eq rfl, .inr rfl, rfl, ?_⟩; show norm (I (idxI neg g)) _; rw [show idxI neg g = idxI neg g from rfl]) | (refine ⟨_, idx_h cp isp_h, g, (by show g.length ≤ 1000; omega), leVs_of_eq rfl, .inr rfl, rfl, ?_⟩; show norm (I (idxI pos' g)) _; rw [show idxI pos' g = idxI pos' g from rfl]) | fail)
        all_goals ((conv => whnf); refine ⟨[], rfl, rfl, trivial, ?_⟩; show leV (L 3 (O.map encT)) (L 3 ((settleG g0).map encT)); rw [hO]; exact leV_refl _)
    | some p =>
      obtain ⟨i, x⟩ := p
      have e1 := idxI_some h1
      cases h2 : firstI pos' g with
      | none =>
        have e2 := idxI_neg.2 h2
        repeat' ((conv => whnf); first | (refine ⟨fun h => ?_, fun h => ?_⟩ <;> try (exfalso; first | omega | exact absurd h (by decide) | exact h rfl)) | (refine ⟨_, idx_h cn isn_h, g, (by show g.length ≤ 1000; omega), leVs_of_eq rfl, .inr rfl, rfl, ?_⟩; show norm (I (idxI neg g)) _; rw [show idxI neg g = idxI neg g from rfl]) | (refine ⟨_, idx_h cp isp_h, g, (by show g.length ≤ 1000; omega), leVs_of_eq rfl, .inr rfl, rfl, ?_⟩; show norm (I (idxI pos' g)) _; rw [show idxI pos' g = idxI pos' g from rfl]) | fail)
        all_goals ((conv => whnf); refine ⟨[], rfl, rfl, trivial, ?_⟩; show leV (L 3 (O.map encT)) (L 3 ((settleG g0).map encT)); rw [hO]; exact leV_refl _)
      | some q =>
        obtain ⟨j, y⟩ := q
        rw [h1, h2] at hs
        cases hs
  | some p =>
    obtain ⟨tt, g'⟩ := p
    obtain ⟨h1, h2, h3, h4, _⟩ := stepS_spec hg hd hs
    have hst := settle_some hg hd hs
    have hne := hs
    unfold stepS at hs
    split at hs
    · rename_i i x j y f1 f2
      cases hs
      have e1 := idxI_some f1
      have e2 := idxI_some f2
      obtain ⟨g1, p1⟩ := firstI_get f1
      obtain ⟨g2, p2⟩ := firstI_get f2
      simp only [neg, pos', decide_eq_true_eq] at p1 p2
      have hij : j ≠ i := fun e => by subst e; rw [g1] at g2; cases g2; omega
      have hox := hg.ok x (List.mem_of_getElem? g1)
      have hoy := hg.ok y (List.mem_of_getElem? g2)
      unfold okS at hox hoy
      have hi := (List.getElem?_eq_some_iff.1 g1).1
      have hj := (List.getElem?_eq_some_iff.1 g2).1
      have hgl : (g.map encS).length = g.length := List.length_map ..
      have hmn : min (0 - x.a) y.a = min (-x.a) y.a := by rw [Int.zero_sub]
      have k1 : (g.map encS)[(i : Int).toNat]? = some (encS x) := by rw [Int.toNat_natCast, List.getElem?_map, g1]; rfl
      have k2 : (g.map encS)[(j : Int).toNat]? = some (encS y) := by rw [Int.toNat_natCast, List.getElem?_map, g2]; rfl
      repeat' ((conv => whnf); first | (refine ⟨fun h => ?_, fun h => ?_⟩ <;> try (exfalso; first | omega | exact absurd h (by decide) | exact h rfl)) | (refine ⟨_, idx_h cn isn_h, g, (by show g.length ≤ 1000; omega), leVs_of_eq rfl, .inr rfl, rfl, ?_⟩; show norm (I (idxI neg g)) _; rw [e1]) | (refine ⟨_, idx_h cp isp_h, g, (by show g.length ≤ 1000; omega), leVs_of_eq rfl, .inr rfl, rfl, ?_⟩; show norm (I (idxI pos' g)) _; rw [e2]) | refine get_at k1 ?_ | refine get_at k2 ?_ | (refine ⟨⟨by omega, by omega⟩, ?_⟩) | (refine ⟨⟨by omega, by omega⟩, ?_⟩) | fail)
      conv => whnf
      have hE1 : (List.map encS g).set ((i : Int)).toNat (setL (encS x) (0 + 1) [CV.int .i64 (x.a + min (0 - x.a) y.a)]) = (g.set i ⟨x.o, x.a + min (-x.a) y.a⟩).map encS := by
        rw [Int.toNat_natCast, hmn, List.map_set]; rfl
      rw [hE1]
      have q1 : (g.set i ⟨x.o, x.a + min (-x.a) y.a⟩)[j]? = some y := by rw [List.getElem?_set_ne (Ne.symm hij)]; exact g2
      have hE2 : ∀ G : List Share, (G.map encS).set ((j : Int)).toNat (setL (encS y) (0 + 1) [CV.int .i64 (y.a - min (0 - x.a) y.a)]) = (G.set j ⟨y.o, y.a - min (-x.a) y.a⟩).map encS := fun G => by
        rw [Int.toNat_natCast, hmn, List.map_set]; rfl
      have q2 : ((g.set i ⟨x.o, x.a + min (-x.a) y.a⟩).set j ⟨y.o, y.a - min (-x.a) y.a⟩)[i]? = some ⟨x.o, x.a + min (-x.a) y.a⟩ := by rw [List.getElem?_set_ne hij]; exact List.getElem?_set_self hi
      have q3 : ((g.set i ⟨x.o, x.a + min (-x.a) y.a⟩).set j ⟨y.o, y.a - min (-x.a) y.a⟩)[j]? = some ⟨y.o, y.a - min (-x.a) y.a⟩ := List.getElem?_set_self (by simpa using hj)
      have hl1 : (g.set i ⟨x.o, x.a + min (-x.a) y.a⟩).length = g.length := by simp
      generalize g.set i ⟨x.o, x.a + min (-x.a) y.a⟩ = G1 at *
      have hl1' : (G1.map encS).length = g.length := by rw [List.length_map]; exact hl1
      have k3 : (G1.map encS)[(j : Int).toNat]? = some (encS y) := by rw [Int.toNat_natCast, List.getElem?_map, q1]; rfl
      refine ⟨⟨by omega, by omega⟩, ?_⟩
      repeat' ((conv => whnf); first | refine get_at k3 ?_ | (refine ⟨⟨by omega, by omega⟩, ?_⟩) | fail)
      rw [hE2]
      have hl2 : (G1.set j ⟨y.o, y.a - min (-x.a) y.a⟩).length = g.length := by simpa using hl1
      generalize G1.set j ⟨y.o, y.a - min (-x.a) y.a⟩ = G2 at *
      have hl2' : (G2.map encS).length = g.length := by rw [List.length_map]; exact hl2
      have k4 : (G2.map encS)[(i : Int).toNat]? = some (encS ⟨x.o, x.a + min (-x.a) y.a⟩) := by rw [Int.toNat_natCast, List.getElem?_map, q2]; rfl
      have k5 : (G2.map encS)[(j : Int).toNat]? = some (encS ⟨y.o, y.a - min (-x.a) y.a⟩) := by rw [Int.toNat_natCast, List.getElem?_map, q3]; rfl
      refine ⟨⟨by omega, by omega⟩, ?_⟩
      have hc : nzc G2 < nzc g := by omega
      repeat' ((conv => whnf); first | (refine ⟨(nzc G2, _, _), ⟨?_, by (try dsimp only); omega⟩, [(0, 0), (1, 2)], ⟨⟨rfl, rfl⟩, ⟨⟨rfl, rfl⟩, trivial⟩⟩, ⟨⟨rfl, rfl, rfl⟩, ⟨⟨rfl, rfl, rfl⟩, trivial⟩⟩, rfl, rfl, rfl⟩; (try dsimp only); refine ⟨G2, O ++ [⟨x.o, y.o, min (-x.a) y.a⟩], ⟨rfl, by rw [List.map_append, hmn]; rfl⟩, ⟨h1, h2⟩, by rw [List.append_assoc, ← hO, hst]; rfl, by simp only [List.length_append, List.length_cons, List.length_nil]; omega, rfl⟩) | refine get_at k4 ?_ | refine get_at k5 ?_ | (refine ⟨⟨by omega, by omega⟩, ?_⟩) | (refine ⟨⟨by simp only [List.length_map, List.length_cons, List.length_nil]; omega, by simp only [List.length_map, List.length_cons, List.length_nil]; omega⟩, ?_⟩) | fail)
    · cases hs
theorem settle_g : HoldsG Tryz.prog 88 settleS := holdsG_of mix Tryz.func88 settleLow (fun _ => rfl) settleV

end Go.Proofs.YtpkhannkbafimaaGreat
