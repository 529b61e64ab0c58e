/- Incidents: Urgent. -/
import Derived.Test.YtoeichkblclfaaaI7
import Derived.Test.YtoeichkblclfaaaI8
import Derived.Test.YtoeichkblclfaaaShelf
import Derived.Test.YtoeichkblclfaaaE5
namespace Go.Proofs.Ytoeichkblclfaaa
open Go.RowKit

/-! cmp.isNaN[int] -/
def isNaNIr : IFn := ⟨6, [.tmp 2],
  (.seq (.ops [
    ⟨(some 2), .mov, [.const (.bool false)], none⟩] false)
  (.seq (.ops [
    ⟨(some 3), .mov, [.tmp 0], none⟩,
    ⟨(some 4), .mov, [.tmp 0], none⟩,
    ⟨(some 5), .cmp .neq, [.tmp 3, .tmp 4], none⟩,
    ⟨(some 2), .mov, [.tmp 5], none⟩] false)
  .ret))⟩
theorem isNaNLow : lowF Try.prog {} Try.f67 = some isNaNIr := by kernel_rfl
def isNaNS : Spec := spec Int (fun n => [I n]) (fun _ => True) (fun _ => B false)
theorem isNaNV [DrFlag] : fnV Try.prog isNaNIr isNaNS := by
  intro (x : Int) hx
  repeat' ((conv => whnf); first | (refine ⟨fun h => ?_, fun h => ?_⟩ <;> try (exfalso; omega)) | refine ⟨[], rfl, trivial, congrArg CV.bool ?_⟩ | refine ⟨[], rfl, trivial, congrArg (CV.int .i64) ?_⟩ | refine ⟨⟨by omega, by omega⟩, ?_⟩ | refine ⟨by omega, ?_⟩ | fail)
  rfl
theorem isNaN_h [DrFlag] : Holds Try.prog 67 isNaNS := holds_of mix Try.func67 isNaNLow (fun _ => rfl) isNaNV

/-! cmp.Compare[int] -/
def compareIr : IFn := ⟨20, [.tmp 4],
  (.seq (.ops [
    ⟨(some 4), .mov, [.const (.int .i64 0)], none⟩] false)
  (.seq (.ops [
    ⟨(some 7), .mov, [.tmp 0], none⟩,
    ⟨(some 8), .call 67, [.tmp 7], none⟩,
    ⟨(some 5), .mov, [.tmp 8], none⟩] false)
  (.seq (.ops [
    ⟨(some 9), .mov, [.tmp 1], none⟩,
    ⟨(some 10), .call 67, [.tmp 9], none⟩,
    ⟨(some 6), .mov, [.tmp 10], none⟩] false)
  (.seq (.seq (.ops [
    ⟨(some 11), .mov, [.tmp 5], none⟩] false)
  (.cond (.tmp 11)
    (.seq (.seq (.ops [
      ⟨(some 12), .mov, [.tmp 6], none⟩] false)
    (.cond (.tmp 12)
      (.seq (.ops [
        ⟨(some 4), .mov, [.const (.int .i64 0)], none⟩] false)
      .ret)
      .skip))
    (.seq (.ops [
      ⟨(some 4), .mov, [.const (.int .i64 (-1))], none⟩] false)
    .ret))
    .skip))
  (.seq (.seq (.ops [
    ⟨(some 13), .mov, [.tmp 6], none⟩] false)
  (.cond (.tmp 13)
    (.seq (.ops [
      ⟨(some 4), .mov, [.const (.int .i64 1)], none⟩] false)
    .ret)
    .skip))
  (.seq (.seq (.ops [
    ⟨(some 14), .mov, [.tmp 0], none⟩,
    ⟨(some 15), .mov, [.tmp 1], none⟩,
    ⟨(some 16), .cmp .lss, [.tmp 14, .tmp 15], none⟩] false)
  (.cond (.tmp 16)
    (.seq (.ops [
      ⟨(some 4), .mov, [.const (.int .i64 (-1))], none⟩] false)
    .ret)
    .skip))
  (.seq (.seq (.ops [
    ⟨(some 17), .mov, [.tmp 0], none⟩,
    ⟨(some 18), .mov, [.tmp 1], none⟩,
    ⟨(some 19), .cmp .gtr, [.tmp 17, .tmp 18], none⟩] false)
  (.cond (.tmp 19)
    (.seq (.ops [
      ⟨(some 4), .mov, [.const (.int .i64 1)], none⟩] false)
    .ret)
    .skip))
  (.seq (.ops [
    ⟨(some 4), .mov, [.const (.int .i64 0)], none⟩] false)
  .ret))))))))⟩
theorem compareLow : lowF Try.prog {} Try.f41 = some compareIr := by kernel_rfl
def compareS : Spec := spec (Int × Int) (fun p => [I p.1, I p.2]) (fun _ => True) (fun p => I (cmpI p.1 p.2))
theorem compareV [DrFlag] : fnV Try.prog compareIr compareS := by
  intro ⟨x, y⟩ hx
  repeat' ((conv => whnf); first | (refine ⟨fun h => ?_, fun h => ?_⟩ <;> try (exfalso; omega)) | refine ⟨_, isNaN_h, _, trivial, leVs_of_eq rfl, .inr rfl, rfl, ?_⟩ | refine ⟨[], rfl, trivial, congrArg CV.bool ?_⟩ | refine ⟨[], rfl, trivial, congrArg (CV.int .i64) ?_⟩ | refine ⟨⟨by omega, by omega⟩, ?_⟩ | refine ⟨by omega, ?_⟩ | fail)
  all_goals (unfold cmpI; (repeat split) <;> first | rfl | omega | contradiction)
theorem compare_h [DrFlag] : Holds Try.prog 41 compareS := holds_of mix Try.func41 compareLow (fun _ => rfl) compareV

/-! cmp.Or[int] -/
def orIr : IFn := ⟨18, [.tmp 2],
  (.seq (.ops [
    ⟨(some 2), .mov, [.const (.int .i64 0)], none⟩] false)
  (.seq (.ops [
    ⟨(some 3), .mov, [.const (.int .i64 0)], none⟩] false)
  (.seq (.seq (.ops [
    ⟨(some 6), .mov, [.tmp 0], none⟩,
    ⟨(some 7), .len, [.tmp 6], none⟩,
    ⟨(some 8), .mov, [.const (.int .i64 0)], none⟩] false)
  (.block 0
    (.loop
      (.seq (.ops [
        ⟨(some 9), .cmp .lss, [.tmp 8, .tmp 7], none⟩] false)
      (.seq (.cond (.tmp 9)
        .skip
        (.exit 0))
      (.seq (.block 1
        (.seq (.ops [
          ⟨(some 10), .idx 1, [.tmp 6, .tmp 8], none⟩,
          ⟨(some 11), .load 1 false, [.tmp 10], none⟩,
          ⟨(some 5), .mov, [.tmp 11], none⟩] false)
        (.seq (.ops [
          ⟨(some 12), .mov, [.tmp 5], none⟩,
          ⟨(some 13), .mov, [.tmp 3], none⟩,
          ⟨(some 14), .cmp .neq, [.tmp 12, .tmp 13], none⟩] false)
        (.cond (.tmp 14)
          (.seq (.ops [
            ⟨(some 15), .mov, [.tmp 5], none⟩,
            ⟨(some 2), .mov, [.tmp 15], none⟩] false)
          .ret)
          .skip))))
      (.ops [
        ⟨(some 16), .bin .add .i64 false, [.tmp 8, .const (.int .i64 1)], none⟩,
        ⟨(some 8), .mov, [.tmp 16], none⟩] false)))))))
  (.seq (.ops [
    ⟨(some 17), .mov, [.tmp 3], none⟩,
    ⟨(some 2), .mov, [.tmp 17], none⟩] false)
  .ret))))⟩
theorem orLow : lowF Try.prog {} Try.f40 = some orIr := by kernel_rfl
def orS : Spec := spec (List Int) (fun l => [L 1 (l.map cI)]) (fun l => l.length ≤ 1000) (fun l => I (orI l))
theorem orV [DrFlag] : fnV Try.prog orIr orS := by
  intro (xs : List Int) hx
  replace hx : xs.length ≤ 1000 := hx
  have hl : (xs.map cI).length = xs.length := List.length_map ..
  conv => whnf
  refine ⟨Nat, fun k => ⟨[(6, L 1 (xs.map cI)), (7, I (xs.map cI).length), (8, I k), (3, I 0)], [], 0⟩, fun k => k ≤ xs.length ∧ orI xs = orI (xs.drop k), fun k => xs.length - k, ⟨0, ⟨by omega, by simp⟩, [], ⟨⟨rfl, rfl⟩, ⟨⟨rfl, rfl⟩, ⟨⟨rfl, rfl⟩, ⟨⟨rfl, rfl⟩, trivial⟩⟩⟩⟩, trivial, rfl, rfl, rfl⟩, fun k hk => ?_⟩
  obtain ⟨hk, ho⟩ := hk
  conv => whnf
  refine ⟨fun h => ?_, fun h => ?_⟩
  · conv => whnf
    refine ⟨by omega, fun r hr => ?_⟩
    obtain ⟨x, hx', rfl⟩ := map_get hr
    rw [Int.toNat_natCast] at hx'
    have hs := orI_step hx'
    conv => whnf
    refine ⟨fun h0 => ?_, fun h0 => ?_⟩
    · conv => whnf
      refine ⟨[], rfl, trivial, congrArg (CV.int .i64) ?_⟩
      rw [ho, hs, if_neg h0]
    · conv => whnf
      refine ⟨⟨by omega, by omega⟩, ?_⟩
      conv => whnf
      refine ⟨k + 1, ⟨⟨by omega, by rw [ho, hs, if_pos (Decidable.not_not.1 h0)]⟩, by (try dsimp only); omega⟩, [], ⟨⟨rfl, rfl⟩, ⟨⟨rfl, rfl⟩, ⟨⟨rfl, rfl⟩, ⟨⟨rfl, rfl⟩, trivial⟩⟩⟩⟩, trivial, rfl, rfl, rfl⟩
  · conv => whnf
    refine ⟨[], rfl, trivial, congrArg (CV.int .i64) ?_⟩
    rw [ho, List.drop_eq_nil_of_le (by omega), orI]
theorem or_h [DrFlag] : Holds Try.prog 40 orS := holds_of mix Try.func40 orLow (fun _ => rfl) orV

/-! skiarea/incident.Urgent$1 -/
def orderUIr : IFn := ⟨24, [.tmp 4],
  (.seq (.ops [
    ⟨(some 2), .box, [.tmp 0], none⟩,
    ⟨(some 3), .box, [.tmp 1], none⟩,
    ⟨(some 4), .mov, [.const (.int .i64 0)], none⟩] false)
  (.seq (.ops [
    ⟨(some 5), .faddr 2, [.tmp 2], none⟩,
    ⟨(some 6), .load 1 false, [.tmp 5], none⟩,
    ⟨(some 7), .max, [.tmp 6, .const (.int .i64 1)], none⟩,
    ⟨(some 8), .faddr 2, [.tmp 3], none⟩,
    ⟨(some 9), .load 1 false, [.tmp 8], none⟩,
    ⟨(some 10), .max, [.tmp 9, .const (.int .i64 1)], none⟩,
    ⟨(some 11), .call 41, [.tmp 7, .tmp 10], none⟩,
    ⟨(some 12), .faddr 5, [.tmp 2], none⟩,
    ⟨(some 13), .load 1 false, [.tmp 12], none⟩,
    ⟨(some 14), .faddr 5, [.tmp 3], none⟩,
    ⟨(some 15), .load 1 false, [.tmp 14], none⟩,
    ⟨(some 16), .call 41, [.tmp 13, .tmp 15], none⟩,
    ⟨(some 17), .faddr 0, [.tmp 2], none⟩,
    ⟨(some 18), .load 1 false, [.tmp 17], none⟩,
    ⟨(some 19), .faddr 0, [.tmp 3], none⟩,
    ⟨(some 20), .load 1 false, [.tmp 19], none⟩,
    ⟨(some 21), .call 41, [.tmp 18, .tmp 20], none⟩,
    ⟨(some 22), .buildSl 3 1, [.tmp 11, .tmp 16, .tmp 21], none⟩,
    ⟨(some 23), .call 40, [.tmp 22], none⟩,
    ⟨(some 4), .mov, [.tmp 23], none⟩] true)
  .ret))⟩
theorem orderULow : lowF Try.prog {} Try.f39 = some orderUIr := by kernel_rfl
def orderUS : Spec := spec (Inc × Inc) (fun p => [aI p.1, aI p.2]) (fun _ => True) (fun p => I (cmpU p.1 p.2))
theorem orderUV [DrFlag] : fnV Try.prog orderUIr orderUS := by
  intro ⟨x, y⟩ hx
  repeat' ((conv => whnf); first | (refine ⟨fun h => ?_, fun h => ?_⟩ <;> try (exfalso; omega)) | refine ⟨_, compare_h, (_, _), trivial, leVs_of_eq rfl, .inr rfl, rfl, ?_⟩ | refine ⟨_, or_h, [_, _, _], (by show (3 : Nat) ≤ 1000; omega), leVs_of_eq rfl, .inr rfl, rfl, ?_⟩ | refine ⟨[], rfl, trivial, congrArg CV.bool ?_⟩ | refine ⟨[], rfl, trivial, congrArg (CV.int .i64) ?_⟩ | refine ⟨⟨by omega, by omega⟩, ?_⟩ | refine ⟨by omega, ?_⟩ | fail)
  all_goals rfl
theorem orderU_h [DrFlag] : Holds Try.prog 39 orderUS := holds_of mix Try.func39 orderULow (fun _ => rfl) orderUV
theorem swoU : Go.Sort.SWO (ltOf fun x y : {_x : Inc // True} => cmpU x.1 y.1) := {
  irrefl := fun x => by simp only [ltOf, decide_eq_false_iff_not, cmpU_lt]; unfold befI; omega
  trans := fun x y z h1 h2 => by simp only [ltOf, decide_eq_true_eq, cmpU_lt] at *; unfold befI at *; omega
  ntrans := fun x y z h1 h2 => by simp only [ltOf, decide_eq_false_iff_not, cmpU_lt] at *; unfold befI at *; omega }
theorem sortU_h : HoldsM Try.prog 38 (sortM 38 6 encI 39 [] (fun _ => True) cmpU) :=
  haveI : Inhabited {_x : Inc // True} := ⟨⟨inc0, trivial⟩⟩
  sort_holds (k := 6) (cR := encI) Try.sortI (fun _ => by kernel_rfl) (fun _ => by kernel_rfl) (fun x c hc => by simp [encI] at hc; rcases hc with rfl | rfl | rfl | rfl | rfl | rfl <;> rfl) (fun _ => rfl) cmpU swoU 39 [] (by kernel_rfl) (fun x F w vs _ hF hr => @orderU_h ⟨true⟩ x F w vs trivial hF hr) 38

/-! skiarea/incident.Urgent -/
def urgentIr : IFn := ⟨38, [.tmp 2],
  (.seq (.ops [
    ⟨(some 2), .mov, [.const (.slice none 0 0)], none⟩] false)
  (.seq (.ops [
    ⟨(some 3), .nilOwn 38 6, [], none⟩] false)
  (.seq (.seq (.ops [
    ⟨(some 9), .mov, [.tmp 0], none⟩,
    ⟨(some 10), .len, [.tmp 9], none⟩,
    ⟨(some 11), .mov, [.const (.int .i64 0)], none⟩] false)
  (.block 0
    (.loop
      (.seq (.ops [
        ⟨(some 12), .cmp .lss, [.tmp 11, .tmp 10], none⟩] false)
      (.seq (.cond (.tmp 12)
        .skip
        (.exit 0))
      (.seq (.block 1
        (.seq (.ops [
          ⟨(some 13), .idx 6, [.tmp 9, .tmp 11], none⟩,
          ⟨(some 14), .load 6 true, [.tmp 13], none⟩,
          ⟨(some 5), .alloc [.int .i64 0, .int .i64 0, .int .i64 0, .int .i64 0, .int .i64 0, .int .i64 0], [], none⟩,
          ⟨none, .store 6, [.tmp 5, .tmp 14], none⟩] false)
        (.seq (.ops [
          ⟨(some 15), .faddr 3, [.tmp 5], none⟩,
          ⟨(some 16), .load 1 false, [.tmp 15], none⟩,
          ⟨(some 17), .cmp .eql, [.tmp 16, .const (.int .i64 1)], none⟩] false)
        (.cond (.tmp 17)
          (.ops [
            ⟨(some 18), .mov, [.tmp 3], none⟩,
            ⟨(some 19), .load 6 true, [.tmp 5], none⟩,
            ⟨(some 20), .buildSl 38 6, [.tmp 19], none⟩,
            ⟨(some 21), .append 38 6 48, [.tmp 18, .tmp 20], none⟩,
            ⟨(some 3), .mov, [.tmp 21], none⟩] false)
          .skip))))
      (.ops [
        ⟨(some 22), .bin .add .i64 false, [.tmp 11, .const (.int .i64 1)], none⟩,
        ⟨(some 11), .mov, [.tmp 22], none⟩] false)))))))
  (.seq (.ops [
    ⟨(some 23), .mov, [.tmp 3], none⟩,
    ⟨(some 24), .callm 38, [.tmp 23, .func 39], none⟩] false)
  (.seq (.ops [
    ⟨(some 6), .nilOwn 3 1, [], none⟩] false)
  (.seq (.seq (.ops [
    ⟨(some 25), .mov, [.tmp 3], none⟩,
    ⟨(some 26), .len, [.tmp 25], none⟩,
    ⟨(some 27), .mov, [.const (.int .i64 0)], none⟩] false)
  (.block 2
    (.loop
      (.seq (.ops [
        ⟨(some 28), .cmp .lss, [.tmp 27, .tmp 26], none⟩] false)
      (.seq (.cond (.tmp 28)
        .skip
        (.exit 2))
      (.seq (.block 3
        (.seq (.ops [
          ⟨(some 29), .idx 6, [.tmp 25, .tmp 27], none⟩,
          ⟨(some 30), .load 6 true, [.tmp 29], none⟩,
          ⟨(some 8), .alloc [.int .i64 0, .int .i64 0, .int .i64 0, .int .i64 0, .int .i64 0, .int .i64 0], [], none⟩,
          ⟨none, .store 6, [.tmp 8, .tmp 30], none⟩] false)
        (.ops [
          ⟨(some 31), .mov, [.tmp 6], none⟩,
          ⟨(some 32), .faddr 0, [.tmp 8], none⟩,
          ⟨(some 33), .load 1 false, [.tmp 32], none⟩,
          ⟨(some 34), .buildSl 3 1, [.tmp 33], none⟩,
          ⟨(some 35), .append 3 1 8, [.tmp 31, .tmp 34], none⟩,
          ⟨(some 6), .mov, [.tmp 35], none⟩] false)))
      (.ops [
        ⟨(some 36), .bin .add .i64 false, [.tmp 27, .const (.int .i64 1)], none⟩,
        ⟨(some 27), .mov, [.tmp 36], none⟩] false)))))))
  (.seq (.ops [
    ⟨(some 37), .mov, [.tmp 6], none⟩,
    ⟨(some 2), .mov, [.tmp 37], none⟩] false)
  .ret)))))))⟩
theorem urgentLow : lowF Try.prog { owns := [(3, 38), (6, 3)], muts := [24] } Try.f16 = some urgentIr := by kernel_rfl
def urgentS : Spec := spec (List Inc) (fun l => [L 6 (l.map encI)]) (fun l => IdsN l ∧ l.length ≤ 1000000) (fun l => L 1 ((urgF l).map e1))
set_option maxHeartbeats 1000000 in
theorem urgentV : fnV Try.prog urgentIr urgentS := by
  intro (l : List Inc) hp
  obtain ⟨hK, hl0⟩ : IdsN l ∧ l.length ≤ 1000000 := hp
  have hl : (l.map encI).length = l.length := List.length_map ..
  show vc _ _ _ _ ⟨argEnv 0 [L 6 (l.map encI)], [], 0⟩
  conv => whnf
  refine ⟨Nat × (List (List CV)), fun xq => ⟨[(3, .osl 0), (9, L 6 (l.map encI)), (10, I (l.map encI).length), (11, I xq.1)], [(0, .row 38 6 xq.2)], 1⟩, fun xq => xq.1 ≤ l.length ∧ xq.2 = (waitL (l.take xq.1)).map encI, fun xq => l.length - xq.1, ⟨(0, _), ?_, [], ⟨⟨rfl, rfl⟩, ⟨⟨rfl, rfl⟩, ⟨⟨rfl, rfl⟩, ⟨⟨rfl, rfl⟩, trivial⟩⟩⟩⟩, ⟨⟨rfl, rfl, rfl⟩, trivial⟩, rfl, rfl, rfl⟩, ?_⟩
  · (try dsimp only); exact ⟨Nat.zero_le _, rfl⟩
  rintro ⟨k, es⟩ hk
  obtain ⟨hk, rfl⟩ : k ≤ l.length ∧ es = (waitL (l.take k)).map encI := hk
  (try dsimp only)
  have hfl := wait_len (l.take k)
  have hfl2 := List.length_take_le' k l
  have hlo : ((waitL (l.take k)).map encI).length = (waitL (l.take k)).length := List.length_map ..
  by_cases hkl : k < l.length
  · obtain ⟨x, hx⟩ := getElem_some hkl
    by_cases hn : x.st = 1
    · have hy := wait_yes hx hn
      generalize waitL (l.take k) = out at *
      repeat' ((conv => whnf); first | (refine ⟨(k + 1, _), ⟨?_, by (try dsimp only); omega⟩, [(0, 2)], ⟨⟨rfl, rfl⟩, ⟨⟨rfl, rfl⟩, ⟨⟨rfl, rfl⟩, ⟨⟨rfl, rfl⟩, trivial⟩⟩⟩⟩, ⟨⟨rfl, rfl, rfl⟩, trivial⟩, rfl, rfl, rfl⟩; (try dsimp only); exact ⟨by omega, by rw [hy, List.map_append]; rfl⟩) | (refine ⟨fun h => ?_, fun h => ?_⟩ <;> try (exfalso; first | omega | exact absurd h (by decide) | exact h rfl | exact absurd (show true = false from h) (by decide) | exact absurd (show false = true from h) (by decide))) | (refine ⟨by omega, fun r hrr => ?_⟩; first | ((have hre : r = encI x := by (first | exact get_row hrr hx | fail)); subst hre)) | (refine ⟨⟨by simp; omega, by simp; omega⟩, ?_⟩) | refine ⟨⟨by omega, by omega⟩, ?_⟩ | fail)
    · have hy := wait_no hx hn
      repeat' ((conv => whnf); first | (refine ⟨(k + 1, _), ⟨?_, by (try dsimp only); omega⟩, [], ⟨⟨rfl, rfl⟩, ⟨⟨rfl, rfl⟩, ⟨⟨rfl, rfl⟩, ⟨⟨rfl, rfl⟩, trivial⟩⟩⟩⟩, ⟨⟨rfl, rfl, rfl⟩, trivial⟩, rfl, rfl, rfl⟩; (try dsimp only); exact ⟨by omega, by rw [hy]⟩) | (refine ⟨fun h => ?_, fun h => ?_⟩ <;> try (exfalso; first | omega | exact absurd h (by decide) | exact h rfl | exact absurd (show true = false from h) (by decide) | exact absurd (show false = true from h) (by decide))) | (refine ⟨by omega, fun r hrr => ?_⟩; first | ((have hre : r = encI x := by (first | exact get_row hrr hx | fail)); subst hre)) | refine ⟨⟨by omega, by omega⟩, ?_⟩ | fail)
  · rw [take_end hkl] at hfl hlo ⊢
    repeat' ((conv => whnf); first | (refine ⟨fun h => ?_, fun h => ?_⟩ <;> try (exfalso; first | omega | exact absurd h (by decide) | exact h rfl | exact absurd (show true = false from h) (by decide) | exact absurd (show false = true from h) (by decide))) | fail | fail)
    conv => whnf
    refine ⟨_, sortU_h, waitL l, ⟨fun _ _ => trivial, by omega⟩, ⟨rfl, rfl⟩, rfl, leVs_of_eq rfl, ?_⟩
    rintro _ ⟨ys, rfl, hpm, hpw⟩
    have hys : ys = urgL l := urg_uniq hK hpm (hpw.imp fun h h' => h ((cmpU_lt _ _).2 h'))
    have hyl : ys.length ≤ l.length := by rw [hpm.length_eq]; exact wait_len l
    have hyl2 : (ys.map encI).length = ys.length := List.length_map ..
    conv => whnf
    refine ⟨Nat × (List (List CV)), fun xq => ⟨[(6, .osl 1), (25, .osl 0), (26, I (ys.map encI).length), (27, I xq.1)], [(0, .row 38 6 (ys.map encI)), (1, .row 3 1 xq.2)], 2⟩, fun xq => xq.1 ≤ ys.length ∧ xq.2 = ((ys.take xq.1).map (·.id)).map e1, fun xq => ys.length - xq.1, ⟨(0, _), ?_, [(0, 0), (1, 1)], ⟨⟨rfl, rfl⟩, ⟨⟨rfl, rfl⟩, ⟨⟨rfl, rfl⟩, ⟨⟨rfl, rfl⟩, trivial⟩⟩⟩⟩, ⟨⟨rfl, rfl, rfl⟩, ⟨⟨rfl, rfl, rfl⟩, trivial⟩⟩, rfl, rfl, rfl⟩, ?_⟩
    · (try dsimp only); exact ⟨Nat.zero_le _, rfl⟩
    rintro ⟨j, es⟩ hk
    obtain ⟨hj, rfl⟩ : j ≤ ys.length ∧ es = ((ys.take j).map (·.id)).map e1 := hk
    (try dsimp only)
    have hlo2 : (((ys.take j).map (·.id)).map e1).length = (ys.take j).length := by rw [List.length_map, List.length_map]
    have hfl3 := List.length_take_le' j ys
    by_cases hjl : j < ys.length
    · obtain ⟨x, hx⟩ := getElem_some hjl
      repeat' ((conv => whnf); first | (refine ⟨fun h => ?_, fun h => ?_⟩ <;> try (exfalso; first | omega | exact absurd h (by decide) | exact h rfl | exact absurd (show true = false from h) (by decide) | exact absurd (show false = true from h) (by decide))) | (refine ⟨by omega, fun r hrr => ?_⟩; first | ((have hre : r = encI x := by (first | exact get_row hrr hx | fail)); subst hre)) | (refine ⟨⟨by simp; omega, by simp; omega⟩, ?_⟩) | (refine ⟨(j + 1, _), ⟨?_, by (try dsimp only); omega⟩, [(0, 0), (1, 3)], ⟨⟨rfl, rfl⟩, ⟨⟨rfl, rfl⟩, ⟨⟨rfl, rfl⟩, ⟨⟨rfl, rfl⟩, trivial⟩⟩⟩⟩, ⟨⟨rfl, rfl, rfl⟩, ⟨⟨rfl, rfl, rfl⟩, trivial⟩⟩, rfl, rfl, rfl⟩; (try dsimp only); exact ⟨by omega, by rw [take_snoc _ _ _ hx, List.map_append, List.map_append]; rfl⟩) | refine ⟨⟨by omega, by omega⟩, ?_⟩ | fail)
    · rw [take_end hjl] at hlo2 ⊢
      repeat' ((conv => whnf); first | (refine ⟨fun h => ?_, fun h => ?_⟩ <;> try (exfalso; first | omega | exact absurd h (by decide) | exact h rfl | exact absurd (show true = false from h) (by decide) | exact absurd (show false = true from h) (by decide))) | fail | fail)
      refine ⟨[], rfl, trivial, ?_⟩
      show leV (L 1 ((ys.map (·.id)).map e1)) (L 1 ((urgF l).map e1))
      rw [hys]
      exact leV_refl _
theorem urgent_h : Holds Try.prog 16 urgentS := holds_of mix Try.func16 urgentLow (fun _ => rfl) urgentV

/-! skiarea/skiarearef57.before -/
def rbeforeIr : IFn := ⟨34, [.tmp 4],
  (.seq (.ops [
    ⟨(some 2), .box, [.tmp 0], none⟩,
    ⟨(some 3), .box, [.tmp 1], none⟩,
    ⟨(some 4), .mov, [.const (.bool false)], none⟩] false)
  (.seq (.ops [
    ⟨(some 7), .faddr 2, [.tmp 2], none⟩,
    ⟨(some 8), .load 1 false, [.tmp 7], none⟩,
    ⟨(some 9), .max, [.tmp 8, .const (.int .i64 1)], none⟩,
    ⟨(some 10), .faddr 2, [.tmp 3], none⟩,
    ⟨(some 11), .load 1 false, [.tmp 10], none⟩,
    ⟨(some 12), .max, [.tmp 11, .const (.int .i64 1)], none⟩,
    ⟨(some 5), .mov, [.tmp 9], none⟩,
    ⟨(some 6), .mov, [.tmp 12], none⟩] true)
  (.seq (.seq (.ops [
    ⟨(some 13), .mov, [.tmp 5], none⟩,
    ⟨(some 14), .mov, [.tmp 6], none⟩,
    ⟨(some 15), .cmp .neq, [.tmp 13, .tmp 14], none⟩] false)
  (.cond (.tmp 15)
    (.seq (.ops [
      ⟨(some 16), .mov, [.tmp 5], none⟩,
      ⟨(some 17), .mov, [.tmp 6], none⟩,
      ⟨(some 18), .cmp .lss, [.tmp 16, .tmp 17], none⟩,
      ⟨(some 4), .mov, [.tmp 18], none⟩] false)
    .ret)
    .skip))
  (.seq (.seq (.ops [
    ⟨(some 19), .faddr 5, [.tmp 2], none⟩,
    ⟨(some 20), .load 1 false, [.tmp 19], none⟩,
    ⟨(some 21), .faddr 5, [.tmp 3], none⟩,
    ⟨(some 22), .load 1 false, [.tmp 21], none⟩,
    ⟨(some 23), .cmp .neq, [.tmp 20, .tmp 22], none⟩] false)
  (.cond (.tmp 23)
    (.seq (.ops [
      ⟨(some 24), .faddr 5, [.tmp 2], none⟩,
      ⟨(some 25), .load 1 false, [.tmp 24], none⟩,
      ⟨(some 26), .faddr 5, [.tmp 3], none⟩,
      ⟨(some 27), .load 1 false, [.tmp 26], none⟩,
      ⟨(some 28), .cmp .lss, [.tmp 25, .tmp 27], none⟩,
      ⟨(some 4), .mov, [.tmp 28], none⟩] false)
    .ret)
    .skip))
  (.seq (.ops [
    ⟨(some 29), .faddr 0, [.tmp 2], none⟩,
    ⟨(some 30), .load 1 false, [.tmp 29], none⟩,
    ⟨(some 31), .faddr 0, [.tmp 3], none⟩,
    ⟨(some 32), .load 1 false, [.tmp 31], none⟩,
    ⟨(some 33), .cmp .lss, [.tmp 30, .tmp 32], none⟩,
    ⟨(some 4), .mov, [.tmp 33], none⟩] false)
  .ret)))))⟩
theorem rbeforeLow : lowF Try.prog {} Try.f42 = some rbeforeIr := by kernel_rfl
def rbeforeS : Spec := spec (Inc × Inc) (fun p => [aI p.1, aI p.2]) (fun _ => True) (fun p => B (decide (befI p.1 p.2)))
theorem rbeforeV : fnV Try.prog rbeforeIr rbeforeS := by
  intro ⟨(a : Inc), (b : Inc)⟩ _
  show vc _ _ _ _ ⟨argEnv 0 [aI a, aI b], [], 0⟩
  have hb : befI a b = (max a.tri 1 < max b.tri 1 ∨ (max a.tri 1 = max b.tri 1 ∧ (a.since < b.since ∨ (a.since = b.since ∧ a.id < b.id)))) := rfl
  repeat' ((conv => whnf); first | (refine ⟨fun h => ?_, fun h => ?_⟩ <;> try (exfalso; first | omega | exact absurd h (by decide) | exact h rfl | exact absurd (show true = false from h) (by decide) | exact absurd (show false = true from h) (by decide))) | refine ⟨[], rfl, trivial, congrArg CV.bool ?_⟩ | fail)
  all_goals first | exact (decide_eq_true (by rw [hb]; omega)).symm | exact (decide_eq_false (by rw [hb]; omega)).symm
theorem rbefore_h : Holds Try.prog 42 rbeforeS := holds_of mix Try.func42 rbeforeLow (fun _ => rfl) rbeforeV

/-! skiarea/skiarearef57.Urgent -/
def rurgentIr : IFn := ⟨63, [.tmp 2],
  (.seq (.ops [
    ⟨(some 2), .mov, [.const (.slice none 0 0)], none⟩] false)
  (.seq (.ops [
    ⟨(some 3), .nilOwn 38 6, [], none⟩] false)
  (.seq (.seq (.ops [
    ⟨(some 4), .mov, [.const (.int .i64 0)], none⟩] false)
  (.block 0
    (.loop
      (.seq (.seq (.ops [
        ⟨(some 9), .mov, [.tmp 4], none⟩,
        ⟨(some 10), .mov, [.tmp 0], none⟩,
        ⟨(some 11), .len, [.tmp 10], none⟩,
        ⟨(some 12), .cmp .lss, [.tmp 9, .tmp 11], none⟩] false)
      (.cond (.tmp 12)
        .skip
        (.exit 0)))
      (.seq (.block 1
        (.seq (.ops [
          ⟨(some 15), .mov, [.tmp 0], none⟩,
          ⟨(some 16), .mov, [.tmp 4], none⟩,
          ⟨(some 17), .idx 6, [.tmp 15, .tmp 16], none⟩,
          ⟨(some 18), .faddr 3, [.tmp 17], none⟩,
          ⟨(some 19), .load 1 false, [.tmp 18], none⟩,
          ⟨(some 20), .cmp .eql, [.tmp 19, .const (.int .i64 1)], none⟩] false)
        (.cond (.tmp 20)
          (.ops [
            ⟨(some 21), .mov, [.tmp 3], none⟩,
            ⟨(some 22), .mov, [.tmp 0], none⟩,
            ⟨(some 23), .mov, [.tmp 4], none⟩,
            ⟨(some 24), .idx 6, [.tmp 22, .tmp 23], none⟩,
            ⟨(some 25), .load 6 true, [.tmp 24], none⟩,
            ⟨(some 26), .buildSl 38 6, [.tmp 25], none⟩,
            ⟨(some 27), .append 38 6 48, [.tmp 21, .tmp 26], none⟩,
            ⟨(some 3), .mov, [.tmp 27], none⟩] false)
          .skip)))
      (.ops [
        ⟨(some 13), .mov, [.tmp 4], none⟩,
        ⟨(some 14), .bin .add .i64 false, [.tmp 13, .const (.int .i64 1)], none⟩,
        ⟨(some 4), .mov, [.tmp 14], none⟩] false))))))
  (.seq (.ops [
    ⟨(some 28), .mov, [.tmp 3], none⟩,
    ⟨(some 29), .len, [.tmp 28], none⟩,
    ⟨(some 30), .mksl 3 1 8 [.int .i64 0], [.tmp 29, .tmp 29], none⟩,
    ⟨(some 5), .mov, [.tmp 30], none⟩] false)
  (.seq (.seq (.ops [
    ⟨(some 6), .mov, [.const (.int .i64 0)], none⟩] false)
  (.block 2
    (.loop
      (.seq (.seq (.ops [
        ⟨(some 31), .mov, [.tmp 6], none⟩,
        ⟨(some 32), .mov, [.tmp 3], none⟩,
        ⟨(some 33), .len, [.tmp 32], none⟩,
        ⟨(some 34), .cmp .lss, [.tmp 31, .tmp 33], none⟩] false)
      (.cond (.tmp 34)
        .skip
        (.exit 2)))
      (.seq (.block 3
        (.seq (.ops [
          ⟨(some 7), .mov, [.const (.int .i64 0)], none⟩] false)
        (.seq (.seq (.ops [
          ⟨(some 8), .mov, [.const (.int .i64 0)], none⟩] false)
        (.block 4
          (.loop
            (.seq (.seq (.ops [
              ⟨(some 37), .mov, [.tmp 8], none⟩,
              ⟨(some 38), .mov, [.tmp 3], none⟩,
              ⟨(some 39), .len, [.tmp 38], none⟩,
              ⟨(some 40), .cmp .lss, [.tmp 37, .tmp 39], none⟩] false)
            (.cond (.tmp 40)
              .skip
              (.exit 4)))
            (.seq (.block 5
              (.seq (.ops [
                ⟨(some 43), .mov, [.tmp 3], none⟩,
                ⟨(some 44), .mov, [.tmp 8], none⟩,
                ⟨(some 45), .idx 6, [.tmp 43, .tmp 44], none⟩,
                ⟨(some 46), .load 6 true, [.tmp 45], none⟩,
                ⟨(some 47), .mov, [.tmp 3], none⟩,
                ⟨(some 48), .mov, [.tmp 6], none⟩,
                ⟨(some 49), .idx 6, [.tmp 47, .tmp 48], none⟩,
                ⟨(some 50), .load 6 true, [.tmp 49], none⟩,
                ⟨(some 51), .call 42, [.tmp 46, .tmp 50], none⟩] true)
              (.cond (.tmp 51)
                (.ops [
                  ⟨(some 52), .mov, [.tmp 7], none⟩,
                  ⟨(some 53), .bin .add .i64 false, [.tmp 52, .const (.int .i64 1)], none⟩,
                  ⟨(some 7), .mov, [.tmp 53], none⟩] false)
                .skip)))
            (.ops [
              ⟨(some 41), .mov, [.tmp 8], none⟩,
              ⟨(some 42), .bin .add .i64 false, [.tmp 41, .const (.int .i64 1)], none⟩,
              ⟨(some 8), .mov, [.tmp 42], none⟩] false))))))
        (.ops [
          ⟨(some 54), .mov, [.tmp 5], none⟩,
          ⟨(some 55), .mov, [.tmp 7], none⟩,
          ⟨(some 56), .mov, [.tmp 3], none⟩,
          ⟨(some 57), .mov, [.tmp 6], none⟩,
          ⟨(some 58), .idx 6, [.tmp 56, .tmp 57], none⟩,
          ⟨(some 59), .faddr 0, [.tmp 58], none⟩,
          ⟨(some 60), .load 1 false, [.tmp 59], none⟩,
          ⟨(some 61), .idx 1, [.tmp 54, .tmp 55], none⟩,
          ⟨none, .store 1, [.tmp 61, .tmp 60], none⟩] false))))
      (.ops [
        ⟨(some 35), .mov, [.tmp 6], none⟩,
        ⟨(some 36), .bin .add .i64 false, [.tmp 35, .const (.int .i64 1)], none⟩,
        ⟨(some 6), .mov, [.tmp 36], none⟩] false))))))
  (.seq (.ops [
    ⟨(some 62), .mov, [.tmp 5], none⟩,
    ⟨(some 2), .mov, [.tmp 62], none⟩] false)
  .ret))))))⟩
theorem rurgentLow : lowF Try.prog { owns := [(3, 38)] } Try.f18 = some rurgentIr := by kernel_rfl
def rurgentS : Spec := spec (List Inc) (fun l => [L 6 (l.map encI)]) (fun l => IdsN l ∧ l.length ≤ 1000000) (fun l => L 1 ((urgF l).map e1))
set_option maxHeartbeats 1000000 in
theorem rurgentV : fnV Try.prog rurgentIr rurgentS := by
  intro (l : List Inc) hp
  obtain ⟨hK, hl0⟩ : IdsN l ∧ l.length ≤ 1000000 := hp
  have hl : (l.map encI).length = l.length := List.length_map ..
  show vc _ _ _ _ ⟨argEnv 0 [L 6 (l.map encI)], [], 0⟩
  conv => whnf
  refine ⟨Nat × (List (List CV)), fun xq => ⟨[(0, L 6 (l.map encI)), (3, .osl 0), (4, I xq.1)], [(0, .row 38 6 xq.2)], 1⟩, fun xq => xq.1 ≤ l.length ∧ xq.2 = (waitL (l.take xq.1)).map encI, fun xq => l.length - xq.1, ⟨(0, _), ?_, [], ⟨⟨rfl, rfl⟩, ⟨⟨rfl, rfl⟩, ⟨⟨rfl, rfl⟩, trivial⟩⟩⟩, ⟨⟨rfl, rfl, rfl⟩, trivial⟩, rfl, rfl, rfl⟩, ?_⟩
  · (try dsimp only); exact ⟨Nat.zero_le _, rfl⟩
  rintro ⟨k, es⟩ hk
  obtain ⟨hk, rfl⟩ : k ≤ l.length ∧ es = (waitL (l.take k)).map encI := hk
  (try dsimp only)
  have hfl := wait_len (l.take k)
  have hfl2 := List.length_take_le' k l
  have hlo : ((waitL (l.take k)).map encI).length = (waitL (l.take k)).length := List.length_map ..
  by_cases hkl : k < l.length
  · obtain ⟨x, hx⟩ := getElem_some hkl
    by_cases hn : x.st = 1
    · have hy := wait_yes hx hn
      generalize waitL (l.take k) = out at *
      repeat' ((conv => whnf); first | (refine ⟨(k + 1, _), ⟨?_, by (try dsimp only); omega⟩, [(0, 1)], ⟨⟨rfl, rfl⟩, ⟨⟨rfl, rfl⟩, ⟨⟨rfl, rfl⟩, trivial⟩⟩⟩, ⟨⟨rfl, rfl, rfl⟩, trivial⟩, rfl, rfl, rfl⟩; (try dsimp only); exact ⟨by omega, by rw [hy, List.map_append]; rfl⟩) | (refine ⟨fun h => ?_, fun h => ?_⟩ <;> try (exfalso; first | omega | exact absurd h (by decide) | exact h rfl | exact absurd (show true = false from h) (by decide) | exact absurd (show false = true from h) (by decide))) | (refine ⟨by omega, fun r hrr => ?_⟩; first | ((have hre : r = encI x := by (first | exact get_row hrr hx | fail)); subst hre)) | (refine ⟨⟨by simp; omega, by simp; omega⟩, ?_⟩) | refine ⟨⟨by omega, by omega⟩, ?_⟩ | fail)
    · have hy := wait_no hx hn
      repeat' ((conv => whnf); first | (refine ⟨(k + 1, _), ⟨?_, by (try dsimp only); omega⟩, [], ⟨⟨rfl, rfl⟩, ⟨⟨rfl, rfl⟩, ⟨⟨rfl, rfl⟩, trivial⟩⟩⟩, ⟨⟨rfl, rfl, rfl⟩, trivial⟩, rfl, rfl, rfl⟩; (try dsimp only); exact ⟨by omega, by rw [hy]⟩) | (refine ⟨fun h => ?_, fun h => ?_⟩ <;> try (exfalso; first | omega | exact absurd h (by decide) | exact h rfl | exact absurd (show true = false from h) (by decide) | exact absurd (show false = true from h) (by decide))) | (refine ⟨by omega, fun r hrr => ?_⟩; first | ((have hre : r = encI x := by (first | exact get_row hrr hx | fail)); subst hre)) | refine ⟨⟨by omega, by omega⟩, ?_⟩ | fail)
  rw [take_end hkl] at hfl hlo ⊢
  repeat' ((conv => whnf); first | (refine ⟨fun h => ?_, fun h => ?_⟩ <;> try (exfalso; first | omega | exact absurd h (by decide) | exact h rfl | exact absurd (show true = false from h) (by decide) | exact absurd (show false = true from h) (by decide))) | (refine ⟨⟨by omega, by omega, by omega, by omega⟩, ?_⟩) | fail | fail)
  refine ⟨Nat × (List (List CV)), fun xq => ⟨[(3, .osl 0), (5, .osl 1), (6, I xq.1)], [(0, .row 38 6 ((waitL l).map encI)), (1, .row 3 1 xq.2)], 2⟩, fun xq => xq.1 ≤ (waitL l).length ∧ ∃ ns : List Int, xq.2 = ns.map e1 ∧ ns.length = (waitL l).length ∧ ∀ (j : Nat) (x : Inc), j < xq.1 → (waitL l)[j]? = some x → ns[rankI (waitL l) x]? = some x.id, fun xq => (waitL l).length - xq.1, ⟨(0, _), ?_, [], ⟨⟨rfl, rfl⟩, ⟨⟨rfl, rfl⟩, ⟨⟨rfl, rfl⟩, trivial⟩⟩⟩, ⟨⟨rfl, rfl, rfl⟩, ⟨⟨rfl, rfl, rfl⟩, trivial⟩⟩, rfl, rfl, rfl⟩, ?_⟩
  · (try dsimp only); exact ⟨Nat.zero_le _, List.replicate (waitL l).length 0, by rw [hlo, Int.toNat_natCast, List.map_replicate], List.length_replicate, fun j x h => by omega⟩
  rintro ⟨i, es⟩ hk
  obtain ⟨hi, ns, rfl, hel, hin⟩ : i ≤ (waitL l).length ∧ ∃ ns : List Int, es = ns.map e1 ∧ ns.length = (waitL l).length ∧ ∀ (j : Nat) (x : Inc), j < i → (waitL l)[j]? = some x → ns[rankI (waitL l) x]? = some x.id := hk
  (try dsimp only)
  by_cases hil : i < (waitL l).length
  · obtain ⟨x, hx⟩ := getElem_some hil
    repeat' ((conv => whnf); first | (refine ⟨fun h => ?_, fun h => ?_⟩ <;> try (exfalso; first | omega | exact absurd h (by decide) | exact h rfl | exact absurd (show true = false from h) (by decide) | exact absurd (show false = true from h) (by decide))) | fail | fail)
    refine ⟨Nat × Nat, fun xq => ⟨[(3, .osl 0), (5, .osl 1), (6, I i), (7, I xq.2), (8, I xq.1)], [(0, .row 38 6 ((waitL l).map encI)), (1, .row 3 1 (ns.map e1))], 2⟩, fun xq => xq.1 ≤ (waitL l).length ∧ xq.2 = ((waitL l).take xq.1).countP fun y => decide (befI y x), fun xq => (waitL l).length - xq.1, ⟨(0, 0), ?_, [], ⟨⟨rfl, rfl⟩, ⟨⟨rfl, rfl⟩, ⟨⟨rfl, rfl⟩, ⟨⟨rfl, rfl⟩, ⟨⟨rfl, rfl⟩, trivial⟩⟩⟩⟩⟩, ⟨⟨rfl, rfl, rfl⟩, ⟨⟨rfl, rfl, rfl⟩, trivial⟩⟩, rfl, rfl, rfl⟩, ?_⟩
    · (try dsimp only); exact ⟨Nat.zero_le _, rfl⟩
    rintro ⟨j, n⟩ hk
    obtain ⟨hj, hn⟩ : j ≤ (waitL l).length ∧ n = ((waitL l).take j).countP fun y => decide (befI y x) := hk
    (try dsimp only)
    have hnj : n ≤ j := by rw [hn]; exact Nat.le_trans List.countP_le_length (by rw [List.length_take]; omega)
    by_cases hjl : j < (waitL l).length
    · obtain ⟨y, hy⟩ := getElem_some hjl
      cases hd : decide (befI y x) with
      | true =>
        repeat' ((conv => whnf); first | (refine ⟨fun h => ?_, fun h => ?_⟩ <;> try (exfalso; first | omega | exact absurd h (by decide) | exact h rfl | exact absurd (show true = false from h) (by decide) | exact absurd (show false = true from h) (by decide))) | (refine ⟨by omega, fun r hrr => ?_⟩; first | ((have hre : r = encI y := by (first | exact get_row hrr hy | fail)); subst hre) | ((have hre : r = encI x := by (first | exact get_row hrr hx | fail)); subst hre)) | (refine ⟨_, rbefore_h, (y, x), trivial, leVs_of_eq rfl, .inr rfl, rfl, ?_⟩; show norm (B (decide (befI y x))) _; rw [hd]) | (refine ⟨(j + 1, n + 1), ⟨?_, by (try dsimp only); omega⟩, [], ⟨⟨rfl, rfl⟩, ⟨⟨rfl, rfl⟩, ⟨⟨rfl, rfl⟩, ⟨⟨rfl, rfl⟩, ⟨⟨rfl, rfl⟩, trivial⟩⟩⟩⟩⟩, ⟨⟨rfl, rfl, rfl⟩, ⟨⟨rfl, rfl, rfl⟩, trivial⟩⟩, rfl, rfl, rfl⟩; (try dsimp only); exact ⟨by omega, by rw [take_snoc _ _ _ hy, List.countP_append, ← hn]; simp [hd]⟩) | refine ⟨⟨by omega, by omega⟩, ?_⟩ | fail)
      | false =>
        repeat' ((conv => whnf); first | (refine ⟨fun h => ?_, fun h => ?_⟩ <;> try (exfalso; first | omega | exact absurd h (by decide) | exact h rfl | exact absurd (show true = false from h) (by decide) | exact absurd (show false = true from h) (by decide))) | (refine ⟨by omega, fun r hrr => ?_⟩; first | ((have hre : r = encI y := by (first | exact get_row hrr hy | fail)); subst hre) | ((have hre : r = encI x := by (first | exact get_row hrr hx | fail)); subst hre)) | (refine ⟨_, rbefore_h, (y, x), trivial, leVs_of_eq rfl, .inr rfl, rfl, ?_⟩; show norm (B (decide (befI y x))) _; rw [hd]) | (refine ⟨(j + 1, n), ⟨?_, by (try dsimp only); omega⟩, [], ⟨⟨rfl, rfl⟩, ⟨⟨rfl, rfl⟩, ⟨⟨rfl, rfl⟩, ⟨⟨rfl, rfl⟩, ⟨⟨rfl, rfl⟩, trivial⟩⟩⟩⟩⟩, ⟨⟨rfl, rfl, rfl⟩, ⟨⟨rfl, rfl, rfl⟩, trivial⟩⟩, rfl, rfl, rfl⟩; (try dsimp only); exact ⟨by omega, by rw [take_snoc _ _ _ hy, List.countP_append, ← hn]; simp [hd]⟩) | refine ⟨⟨by omega, by omega⟩, ?_⟩ | fail)
    · rw [take_end hjl] at hn
      have hnr : n = rankI (waitL l) x := hn
      have hlt := rank_lt hK (List.mem_of_getElem? hx)
      have hnl : (ns.map e1).length = ns.length := List.length_map ..
      obtain ⟨c, hc⟩ := getElem_some (show n < ns.length by omega)
      have hset : (ns.map e1).set ((n : Nat) : Int).toNat [.int .i64 x.id] = (ns.set n x.id).map e1 := by rw [Int.toNat_natCast, ← List.map_set]
      have hnew : ∀ (q : Nat) (z : Inc), q < i + 1 → (waitL l)[q]? = some z → (ns.set n x.id)[rankI (waitL l) z]? = some z.id := by
        intro q z hq hz
        rw [hnr, List.getElem?_set]
        by_cases e : q = i
        · subst e; rw [hx] at hz; cases hz; rw [if_pos rfl, if_pos (by omega)]
        · rw [if_neg (fun h => e (rank_inj hK hx hz h).symm)]; exact hin q z (by omega) hz
      repeat' ((conv => whnf); first | (refine ⟨fun h => ?_, fun h => ?_⟩ <;> try (exfalso; first | omega | exact absurd h (by decide) | exact h rfl | exact absurd (show true = false from h) (by decide) | exact absurd (show false = true from h) (by decide))) | (refine ⟨by omega, fun r hrr => ?_⟩; first | ((have hre : r = encI x := by (first | exact get_row hrr hx | fail)); subst hre) | ((have hre : r = e1 c := by (first | exact get_row hrr hc | fail)); subst hre)) | (refine ⟨(i + 1, _), ⟨?_, by (try dsimp only); omega⟩, [], ⟨⟨rfl, rfl⟩, ⟨⟨rfl, rfl⟩, ⟨⟨rfl, rfl⟩, trivial⟩⟩⟩, ⟨⟨rfl, rfl, rfl⟩, ⟨⟨rfl, rfl, rfl⟩, trivial⟩⟩, rfl, rfl, rfl⟩; (try dsimp only); exact ⟨by omega, ns.set n x.id, hset, by rw [List.length_set]; exact hel, hnew⟩) | refine ⟨⟨by omega, by omega⟩, ?_⟩ | fail)
  · have hfin := rank_fill hK hel fun j x h => hin j x (by have := (List.getElem?_eq_some_iff.1 h).1; omega) h
    repeat' ((conv => whnf); first | (refine ⟨fun h => ?_, fun h => ?_⟩ <;> try (exfalso; first | omega | exact absurd h (by decide) | exact h rfl | exact absurd (show true = false from h) (by decide) | exact absurd (show false = true from h) (by decide))) | fail | fail)
    refine ⟨[], rfl, trivial, ?_⟩
    show leV (L 1 (ns.map e1)) (L 1 ((urgF l).map e1))
    rw [hfin]
    exact leV_refl _
theorem rurgent_h : Holds Try.prog 18 rurgentS := holds_of mix Try.func18 rurgentLow (fun _ => rfl) rurgentV

end Go.Proofs.Ytoeichkblclfaaa
