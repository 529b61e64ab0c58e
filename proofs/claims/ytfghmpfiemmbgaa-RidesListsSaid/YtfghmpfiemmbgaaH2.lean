/- Rides: Of, and the reference's; the reference's Gaps. -/
import Derived.Test.YtfghmpfiemmbgaaH1
namespace Go.Proofs.Ytfghmpfiemmbgaa
open Go.RowKit

/-! skiarea/skiarearef31.earlier -/
def earlIr : IFn := ⟨30, [.tmp 4],
  (.seq (.ops [
    ⟨(some 2), .box, [.tmp 0], none⟩,
    ⟨(some 3), .box, [.tmp 1], none⟩,
    ⟨(some 4), .mov, [.const (.bool false)], none⟩] false)
  (.block 0
    (.seq (.ops [
      ⟨(some 9), .faddr 6, [.tmp 2], none⟩,
      ⟨(some 10), .load 1 false, [.tmp 9], none⟩,
      ⟨(some 11), .faddr 6, [.tmp 3], none⟩,
      ⟨(some 12), .load 1 false, [.tmp 11], none⟩,
      ⟨(some 13), .cmp .neq, [.tmp 10, .tmp 12], none⟩,
      ⟨(some 8), .mov, [.tmp 13], none⟩] false)
    (.cond (.tmp 8)
      (.seq (.ops [
        ⟨(some 14), .faddr 6, [.tmp 2], none⟩,
        ⟨(some 15), .load 1 false, [.tmp 14], none⟩,
        ⟨(some 16), .faddr 6, [.tmp 3], none⟩,
        ⟨(some 17), .load 1 false, [.tmp 16], none⟩,
        ⟨(some 18), .cmp .lss, [.tmp 15, .tmp 17], none⟩,
        ⟨(some 4), .mov, [.tmp 18], none⟩] false)
      .ret)
      (.seq (.ops [
        ⟨(some 20), .faddr 3, [.tmp 2], none⟩,
        ⟨(some 21), .load 1 false, [.tmp 20], none⟩,
        ⟨(some 22), .faddr 3, [.tmp 3], none⟩,
        ⟨(some 23), .load 1 false, [.tmp 22], none⟩,
        ⟨(some 24), .cmp .neq, [.tmp 21, .tmp 23], none⟩,
        ⟨(some 19), .mov, [.tmp 24], none⟩] false)
      (.cond (.tmp 19)
        (.seq (.ops [
          ⟨(some 25), .faddr 3, [.tmp 2], none⟩,
          ⟨(some 26), .load 1 false, [.tmp 25], none⟩,
          ⟨(some 27), .faddr 3, [.tmp 3], none⟩,
          ⟨(some 28), .load 1 false, [.tmp 27], none⟩,
          ⟨(some 29), .cmp .lss, [.tmp 26, .tmp 28], none⟩,
          ⟨(some 4), .mov, [.tmp 29], none⟩] false)
        .ret)
        (.seq (.ops [
          ⟨(some 5), .load 7 true, [.tmp 2], none⟩,
          ⟨(some 6), .load 7 true, [.tmp 3], none⟩,
          ⟨(some 7), .call 31, [.tmp 5, .tmp 6], none⟩,
          ⟨(some 4), .mov, [.tmp 7], none⟩] false)
        .ret)))))))⟩
theorem earlLow : lowF Try.prog {} Try.f37 = some earlIr := by kernel_rfl
def earlS : Spec := spec (Ride × Ride) (fun p => [aR p.1, aR p.2]) (fun _ => True) (fun p => B (earlierB p.1 p.2))
theorem earlV : fnV Try.prog earlIr earlS := by
  intro ⟨x, y⟩ hx
  show vc _ _ _ ⟨argEnv 0 [aR x, aR y], [], 0⟩
  repeat' ((conv => whnf); first | (refine ⟨fun h => ?_, fun h => ?_⟩ <;> try (exfalso; omega)) | refine ⟨_, before_h, (_, _), trivial, leVs_of_eq rfl, .inr rfl, rfl, ?_⟩ | refine ⟨[], rfl, trivial, congrArg CV.bool ?_⟩ | fail)
  all_goals (first | refine (decide_eq_true ?_).symm | refine (decide_eq_false ?_).symm)
  all_goals (unfold earlier; (try simp only [beforeB, decide_eq_true_eq, decide_eq_false_iff_not] at *); (try unfold before at *); omega)
theorem earl_h : Holds Try.prog 37 earlS := holds_of mix Try.func37 earlLow (fun _ => rfl) earlV

/-! skiarea/rides.Of$1 -/
def of1Ir : IFn := ⟨20, [.tmp 4],
  (.seq (.ops [
    ⟨(some 2), .box, [.tmp 0], none⟩,
    ⟨(some 3), .box, [.tmp 1], none⟩,
    ⟨(some 4), .mov, [.const (.int .i64 0)], none⟩] false)
  (.seq (.ops [
    ⟨(some 5), .faddr 6, [.tmp 2], none⟩,
    ⟨(some 6), .load 1 false, [.tmp 5], none⟩,
    ⟨(some 7), .faddr 6, [.tmp 3], none⟩,
    ⟨(some 8), .load 1 false, [.tmp 7], none⟩,
    ⟨(some 9), .call 36, [.tmp 6, .tmp 8], none⟩,
    ⟨(some 10), .faddr 3, [.tmp 2], none⟩,
    ⟨(some 11), .load 1 false, [.tmp 10], none⟩,
    ⟨(some 12), .faddr 3, [.tmp 3], none⟩,
    ⟨(some 13), .load 1 false, [.tmp 12], none⟩,
    ⟨(some 14), .call 36, [.tmp 11, .tmp 13], none⟩,
    ⟨(some 15), .load 7 true, [.tmp 2], none⟩,
    ⟨(some 16), .load 7 true, [.tmp 3], none⟩,
    ⟨(some 17), .call 29, [.tmp 15, .tmp 16], none⟩,
    ⟨(some 18), .buildSl 3 1, [.tmp 9, .tmp 14, .tmp 17], none⟩,
    ⟨(some 19), .call 35, [.tmp 18], none⟩,
    ⟨(some 4), .mov, [.tmp 19], none⟩] true)
  .ret))⟩
theorem of1Low : lowF Try.prog {} Try.f34 = some of1Ir := by kernel_rfl
def of1S : Spec := spec (Ride × Ride) (fun p => [aR p.1, aR p.2]) (fun _ => True) (fun p => I (cmpOf p.1 p.2))
theorem of1V : fnV Try.prog of1Ir of1S := by
  intro ⟨x, y⟩ hx
  show vc _ _ _ ⟨argEnv 0 [aR x, aR y], [], 0⟩
  repeat' ((conv => whnf); first | refine ⟨_, compare_h, (_, _), trivial, leVs_of_eq rfl, .inr rfl, rfl, ?_⟩ | refine ⟨_, order_h, (_, _), trivial, leVs_of_eq rfl, .inr rfl, rfl, ?_⟩ | refine ⟨_, or_h, [_, _, _], (by show (3 : Nat) ≤ 1000; omega), leVs_of_eq rfl, .inr rfl, rfl, ?_⟩ | exact ⟨[], rfl, trivial, rfl⟩ | fail)
theorem of1_h : Holds Try.prog 34 of1S := holds_of mix Try.func34 of1Low (fun _ => rfl) of1V

theorem swoOf : Go.Sort.SWO (ltOf fun x y : {_x : Ride // True} => cmpOf x.1 y.1) := {
  irrefl := fun x => by simp only [ltOf, decide_eq_false_iff_not, cmpOf_lt]; exact earlier_irrefl _
  trans := fun x y z h1 h2 => by simp only [ltOf, decide_eq_true_eq, cmpOf_lt] at *; exact earlier_trans h1 h2
  ntrans := fun x y z h1 h2 => by simp only [ltOf, decide_eq_false_iff_not, cmpOf_lt] at *; exact earlier_ntrans h1 h2 }
theorem sortOf_h : HoldsM Try.prog 33 (sortM 28 7 encR 34 [] (fun _ => True) cmpOf) :=
  haveI : Inhabited {_x : Ride // True} := ⟨⟨⟨0, 0, 0, 0, 0, 0, 0⟩, trivial⟩⟩
  sort_holds (k := 7) (cR := encR) Try.sortR (fun _ => by kernel_rfl) (fun _ => by kernel_rfl) (fun x c hc => by simp [encR] at hc; rcases hc with rfl | rfl | rfl | rfl | rfl | rfl | rfl <;> rfl) (fun _ => rfl) cmpOf swoOf 34 [] (by kernel_rfl) (fun x F w vs _ hF hr => of1_h x F w vs trivial hF hr) 28

/-! skiarea/rides.Of -/
def ofIr : IFn := ⟨26, [.tmp 4],
  (.seq (.ops [
    ⟨(some 4), .mov, [.const (.slice none 0 0)], none⟩] false)
  (.seq (.ops [
    ⟨(some 5), .nilOwn 28 7, [], none⟩] false)
  (.seq (.seq (.ops [
    ⟨(some 8), .mov, [.tmp 0], none⟩,
    ⟨(some 9), .len, [.tmp 8], none⟩,
    ⟨(some 10), .mov, [.const (.int .i64 0)], none⟩] false)
  (.block 0
    (.loop
      (.seq (.ops [
        ⟨(some 11), .cmp .lss, [.tmp 10, .tmp 9], none⟩] false)
      (.seq (.cond (.tmp 11)
        .skip
        (.exit 0))
      (.seq (.block 1
        (.seq (.ops [
          ⟨(some 12), .idx 7, [.tmp 8, .tmp 10], none⟩,
          ⟨(some 13), .load 7 true, [.tmp 12], none⟩,
          ⟨(some 7), .alloc [.int .i64 0, .int .i64 0, .int .i64 0, .int .i64 0, .int .i64 0, .int .i64 0, .int .i64 0], [], none⟩,
          ⟨none, .store 7, [.tmp 7, .tmp 13], none⟩] false)
        (.seq (.ops [
          ⟨(some 14), .faddr 2, [.tmp 7], none⟩,
          ⟨(some 15), .load 1 false, [.tmp 14], none⟩,
          ⟨(some 16), .mov, [.tmp 1], none⟩,
          ⟨(some 17), .cmp .eql, [.tmp 15, .tmp 16], none⟩] false)
        (.cond (.tmp 17)
          (.ops [
            ⟨(some 18), .mov, [.tmp 5], none⟩,
            ⟨(some 19), .load 7 true, [.tmp 7], none⟩,
            ⟨(some 20), .buildSl 28 7, [.tmp 19], none⟩,
            ⟨(some 21), .append 28 7 56, [.tmp 18, .tmp 20], none⟩,
            ⟨(some 5), .mov, [.tmp 21], none⟩] false)
          .skip))))
      (.ops [
        ⟨(some 22), .bin .add .i64 false, [.tmp 10, .const (.int .i64 1)], none⟩,
        ⟨(some 10), .mov, [.tmp 22], none⟩] false)))))))
  (.seq (.ops [
    ⟨(some 23), .mov, [.tmp 5], none⟩,
    ⟨(some 24), .callm 33, [.tmp 23, .func 34], none⟩] false)
  (.seq (.ops [
    ⟨(some 25), .mov, [.tmp 5], none⟩,
    ⟨(some 4), .mov, [.tmp 25], none⟩] false)
  .ret)))))⟩
theorem ofLow : lowF Try.prog { owns := [(5, 28)], muts := [24] } Try.f23 = some ofIr := by kernel_rfl
def ofS : Spec := spec (List Ride × Int) (fun p => [L 7 (p.1.map encR), I p.2]) (fun p => p.1.length ≤ 3000 ∧ Sorted p.1) (fun p => L 7 ((ofF p.1 p.2).map encR))
theorem ofV : fnV Try.prog ofIr ofS := by
  intro ⟨(l : List Ride), (s : Int)⟩ hx
  obtain ⟨hll, hs⟩ : l.length ≤ 3000 ∧ Sorted l := hx
  have hl : (l.map encR).length = l.length := List.length_map ..
  show vc _ _ _ ⟨argEnv 0 [L 7 (l.map encR), I s], [], 0⟩
  conv => whnf
  refine ⟨Nat × (List (List CV)), fun xq => ⟨[(1, I s), (5, .osl 0), (8, L 7 (l.map encR)), (9, I (l.map encR).length), (10, I xq.1)], [(0, .row 28 7 xq.2)], 1⟩, fun xq => xq.1 ≤ l.length ∧ xq.2 = ((l.take xq.1).filter (mine s)).map encR, fun xq => l.length - xq.1, ⟨(0, _), ?_, [], ⟨⟨rfl, rfl⟩, ⟨⟨rfl, rfl⟩, ⟨⟨rfl, rfl⟩, ⟨⟨rfl, rfl⟩, ⟨⟨rfl, rfl⟩, trivial⟩⟩⟩⟩⟩, ⟨⟨rfl, rfl, rfl⟩, trivial⟩, rfl, rfl⟩, ?_⟩
  · (try dsimp only); exact ⟨Nat.zero_le _, rfl⟩
  rintro ⟨k, es⟩ hk
  obtain ⟨hk, rfl⟩ : k ≤ l.length ∧ es = ((l.take k).filter (mine s)).map encR := hk
  (try dsimp only)
  have hfl := filter_len l s k
  have hlo : (((l.take k).filter (mine s)).map encR).length = ((l.take k).filter (mine s)).length := List.length_map ..
  by_cases hkl : k < l.length
  · have hx : l[k]? = some l[k] := List.getElem?_eq_getElem hkl
    generalize l[k] = x at hx
    have hy := filter_yes (s := s) hx
    have hn := filter_no (s := s) hx
    generalize (l.take k).filter (mine s) = out at *
    repeat' ((conv => whnf); first | (refine ⟨(k + 1, _), ⟨?_, by dsimp only; omega⟩, [(0, 2)], ⟨⟨rfl, rfl⟩, ⟨⟨rfl, rfl⟩, ⟨⟨rfl, rfl⟩, ⟨⟨rfl, rfl⟩, ⟨⟨rfl, rfl⟩, trivial⟩⟩⟩⟩⟩, ⟨⟨rfl, rfl, rfl⟩, trivial⟩, rfl, rfl⟩; (try dsimp only); exact ⟨by omega, by rw [hy (by omega), List.map_append]; rfl⟩) | (refine ⟨(k + 1, _), ⟨?_, by dsimp only; omega⟩, [(0, 0)], ⟨⟨rfl, rfl⟩, ⟨⟨rfl, rfl⟩, ⟨⟨rfl, rfl⟩, ⟨⟨rfl, rfl⟩, ⟨⟨rfl, rfl⟩, trivial⟩⟩⟩⟩⟩, ⟨⟨rfl, rfl, rfl⟩, trivial⟩, rfl, rfl⟩; (try dsimp only); exact ⟨by omega, by rw [hn (by omega)]⟩) | (refine ⟨fun h => ?_, fun h => ?_⟩ <;> try (exfalso; omega)) | (refine ⟨by omega, fun r hr => ?_⟩; obtain rfl := get_row hr hx) | (refine ⟨⟨by rw [hlo]; simp only [List.length_cons, List.length_nil]; omega, by rw [hlo]; simp only [List.length_cons, List.length_nil]; omega⟩, ?_⟩) | refine ⟨⟨by omega, by omega⟩, ?_⟩ | fail)
  · rw [List.take_of_length_le (by omega)] at *
    conv => whnf
    refine ⟨fun h => absurd h (by omega), fun h => ?_⟩
    conv => whnf
    refine ⟨_, sortOf_h, l.filter (mine s), ⟨fun _ _ => trivial, by omega⟩, ⟨rfl, rfl⟩, rfl, leVs_of_eq rfl, ?_⟩
    rintro _ ⟨ys, rfl, hp, hpw⟩
    have he : ys = ofF l s := ofF_uniq hs hp (hpw.imp fun h => fun h' => h ((cmpOf_lt _ _).2 h'))
    conv => whnf
    refine ⟨[], rfl, trivial, ?_⟩
    show leV (L 7 (ys.map encR)) (L 7 ((ofF l s).map encR))
    rw [he]
    exact leV_refl _
theorem of_h : Holds Try.prog 23 ofS := holds_of mix Try.func23 ofLow (fun _ => rfl) ofV

theorem map_at {α : Type} {f : α → List CV} {xs : List α} {i : Int} {j : Nat} {x : α} {r : List CV} (hr : (xs.map f)[i.toNat]? = some r) (hi : i.toNat = j) (hx : xs[j]? = some x) : r = f x := by
  rw [hi, List.getElem?_map, hx] at hr; cases hr; rfl
theorem get_at {es : List (List CV)} {i : Nat} {r0 : List CV} {K : List CV → Prop} (hx : es[i]? = some r0) (k : K r0) : i < es.length ∧ ∀ r, es[i]? = some r → K r :=
  ⟨(List.getElem?_eq_some_iff.1 hx).1, fun r hr => by rw [hx] at hr; cases hr; exact k⟩
theorem load_at {α : Type} {f : α → List CV} {xs : List α} {i : Nat} {x : α} {K : List CV → Prop} (hx : xs[i]? = some x) (k : K (f x)) : i < (xs.map f).length ∧ ∀ r, (xs.map f)[i]? = some r → K r := by
  refine ⟨by rw [List.length_map]; exact (List.getElem?_eq_some_iff.1 hx).1, fun r hr => ?_⟩
  rw [List.getElem?_map, hx] at hr; cases hr; exact k

/-! skiarea/skiarearef31.Of -/
def refOfIr : IFn := ⟨64, [.tmp 4],
  (.seq (.ops [
    ⟨(some 4), .mov, [.const (.slice none 0 0)], none⟩] false)
  (.seq (.ops [
    ⟨(some 5), .nilOwn 28 7, [], none⟩] false)
  (.seq (.seq (.ops [
    ⟨(some 6), .mov, [.const (.int .i64 0)], none⟩] false)
  (.block 0
    (.loop
      (.seq (.seq (.ops [
        ⟨(some 8), .mov, [.tmp 6], none⟩,
        ⟨(some 9), .mov, [.tmp 0], none⟩,
        ⟨(some 10), .len, [.tmp 9], none⟩,
        ⟨(some 11), .cmp .lss, [.tmp 8, .tmp 10], none⟩] false)
      (.cond (.tmp 11)
        .skip
        (.exit 0)))
      (.seq (.block 1
        (.seq (.seq (.ops [
          ⟨(some 14), .mov, [.tmp 0], none⟩,
          ⟨(some 15), .mov, [.tmp 6], none⟩,
          ⟨(some 16), .idx 7, [.tmp 14, .tmp 15], none⟩,
          ⟨(some 17), .faddr 2, [.tmp 16], none⟩,
          ⟨(some 18), .load 1 false, [.tmp 17], none⟩,
          ⟨(some 19), .mov, [.tmp 1], none⟩,
          ⟨(some 20), .cmp .neq, [.tmp 18, .tmp 19], none⟩] false)
        (.cond (.tmp 20)
          (.exit 1)
          .skip))
        (.seq (.ops [
          ⟨(some 21), .mov, [.tmp 5], none⟩,
          ⟨(some 22), .mov, [.tmp 0], none⟩,
          ⟨(some 23), .mov, [.tmp 6], none⟩,
          ⟨(some 24), .idx 7, [.tmp 22, .tmp 23], none⟩,
          ⟨(some 25), .load 7 true, [.tmp 24], none⟩,
          ⟨(some 26), .buildSl 28 7, [.tmp 25], none⟩,
          ⟨(some 27), .append 28 7 56, [.tmp 21, .tmp 26], none⟩,
          ⟨(some 5), .mov, [.tmp 27], none⟩] false)
        (.seq (.ops [
          ⟨(some 28), .mov, [.tmp 5], none⟩,
          ⟨(some 29), .len, [.tmp 28], none⟩,
          ⟨(some 30), .bin .sub .i64 false, [.tmp 29, .const (.int .i64 1)], none⟩,
          ⟨(some 7), .mov, [.tmp 30], none⟩] false)
        (.block 2
          (.loop
            (.seq (.seq (.ops [
              ⟨(some 31), .mov, [.tmp 7], none⟩,
              ⟨(some 32), .cmp .gtr, [.tmp 31, .const (.int .i64 0)], none⟩,
              ⟨(some 33), .mov, [.tmp 32], none⟩,
              ⟨(some 34), .mov, [.tmp 5], (some (33, true))⟩,
              ⟨(some 35), .mov, [.tmp 7], (some (33, true))⟩,
              ⟨(some 36), .idx 7, [.tmp 34, .tmp 35], (some (33, true))⟩,
              ⟨(some 37), .load 7 true, [.tmp 36], (some (33, true))⟩,
              ⟨(some 38), .mov, [.tmp 5], (some (33, true))⟩,
              ⟨(some 39), .mov, [.tmp 7], (some (33, true))⟩,
              ⟨(some 40), .bin .sub .i64 false, [.tmp 39, .const (.int .i64 1)], (some (33, true))⟩,
              ⟨(some 41), .idx 7, [.tmp 38, .tmp 40], (some (33, true))⟩,
              ⟨(some 42), .load 7 true, [.tmp 41], (some (33, true))⟩,
              ⟨(some 43), .call 37, [.tmp 37, .tmp 42], (some (33, true))⟩,
              ⟨(some 44), .pick, [.tmp 33, .tmp 43, .const (.bool false)], none⟩] true)
            (.cond (.tmp 44)
              .skip
              (.exit 2)))
            (.seq (.block 3
              (.ops [
                ⟨(some 47), .mov, [.tmp 5], none⟩,
                ⟨(some 48), .mov, [.tmp 7], none⟩,
                ⟨(some 49), .mov, [.tmp 5], none⟩,
                ⟨(some 50), .mov, [.tmp 7], none⟩,
                ⟨(some 51), .bin .sub .i64 false, [.tmp 50, .const (.int .i64 1)], none⟩,
                ⟨(some 52), .mov, [.tmp 5], none⟩,
                ⟨(some 53), .mov, [.tmp 7], none⟩,
                ⟨(some 54), .bin .sub .i64 false, [.tmp 53, .const (.int .i64 1)], none⟩,
                ⟨(some 55), .idx 7, [.tmp 52, .tmp 54], none⟩,
                ⟨(some 56), .load 7 true, [.tmp 55], none⟩,
                ⟨(some 57), .mov, [.tmp 5], none⟩,
                ⟨(some 58), .mov, [.tmp 7], none⟩,
                ⟨(some 59), .idx 7, [.tmp 57, .tmp 58], none⟩,
                ⟨(some 60), .load 7 true, [.tmp 59], none⟩,
                ⟨(some 61), .idx 7, [.tmp 47, .tmp 48], none⟩,
                ⟨none, .store 7, [.tmp 61, .tmp 56], none⟩,
                ⟨(some 62), .idx 7, [.tmp 49, .tmp 51], none⟩,
                ⟨none, .store 7, [.tmp 62, .tmp 60], none⟩] true))
            (.ops [
              ⟨(some 45), .mov, [.tmp 7], none⟩,
              ⟨(some 46), .bin .sub .i64 false, [.tmp 45, .const (.int .i64 1)], none⟩,
              ⟨(some 7), .mov, [.tmp 46], none⟩] false)))))))))
      (.ops [
        ⟨(some 12), .mov, [.tmp 6], none⟩,
        ⟨(some 13), .bin .add .i64 false, [.tmp 12, .const (.int .i64 1)], none⟩,
        ⟨(some 6), .mov, [.tmp 13], none⟩] false))))))
  (.seq (.ops [
    ⟨(some 63), .mov, [.tmp 5], none⟩,
    ⟨(some 4), .mov, [.tmp 63], none⟩] false)
  .ret))))⟩
theorem refOfLow : lowF Try.prog { owns := [(5, 28)] } Try.f24 = some refOfIr := by kernel_rfl
def refOfS : Spec := spec (List Ride × Int) (fun p => [L 7 (p.1.map encR), I p.2]) (fun p => p.1.length ≤ 3000 ∧ Sorted p.1) (fun p => L 7 ((ofF p.1 p.2).map encR))
theorem refOfV : fnV Try.prog refOfIr refOfS := by
  intro ⟨(l : List Ride), (s : Int)⟩ hx
  obtain ⟨hll, hs⟩ : l.length ≤ 3000 ∧ Sorted l := hx
  have hl : (l.map encR).length = l.length := List.length_map ..
  show vc _ _ _ ⟨argEnv 0 [L 7 (l.map encR), I s], [], 0⟩
  conv => whnf
  refine ⟨Nat × (List (List CV)), fun xq => ⟨[(0, L 7 (l.map encR)), (1, I s), (5, .osl 0), (6, I xq.1)], [(0, .row 28 7 xq.2)], 1⟩, fun xq => xq.1 ≤ l.length ∧ ∃ out : List Ride, xq.2 = out.map encR ∧ out.Perm ((l.take xq.1).filter (mine s)) ∧ InTime out, fun xq => l.length - xq.1, ⟨(0, _), ?_, [], ⟨⟨rfl, rfl⟩, ⟨⟨rfl, rfl⟩, ⟨⟨rfl, rfl⟩, ⟨⟨rfl, rfl⟩, trivial⟩⟩⟩⟩, ⟨⟨rfl, rfl, rfl⟩, trivial⟩, rfl, rfl⟩, ?_⟩
  · (try dsimp only); exact ⟨Nat.zero_le _, [], rfl, .refl _, .nil⟩
  rintro ⟨k, es⟩ hk
  obtain ⟨hk, out, rfl, hp, ht⟩ : k ≤ l.length ∧ ∃ out : List Ride, es = out.map encR ∧ out.Perm ((l.take k).filter (mine s)) ∧ InTime out := hk
  (try dsimp only)
  have hfl := filter_len l s k
  have hpl := hp.length_eq
  have hlo : (out.map encR).length = out.length := List.length_map ..
  by_cases hkl : k < l.length
  · have hx : l[k]? = some l[k] := List.getElem?_eq_getElem hkl
    generalize l[k] = x at hx
    have hy := filter_yes (s := s) hx
    have hn := filter_no (s := s) hx
    conv => whnf
    refine ⟨fun h => ?_, fun h => absurd (by omega) h⟩
    conv => whnf
    refine ⟨by omega, fun r hr => ?_⟩
    obtain rfl := get_row hr hx
    conv => whnf
    refine ⟨fun h1 => ?_, fun h1 => ?_⟩
    · conv => whnf
      refine ⟨⟨by omega, by omega⟩, ?_⟩
      conv => whnf
      (refine ⟨(k + 1, _), ⟨?_, by dsimp only; omega⟩, [], ⟨⟨rfl, rfl⟩, ⟨⟨rfl, rfl⟩, ⟨⟨rfl, rfl⟩, ⟨⟨rfl, rfl⟩, trivial⟩⟩⟩⟩, ⟨⟨rfl, rfl, rfl⟩, trivial⟩, rfl, rfl⟩; (try dsimp only); exact ⟨by omega, out, rfl, by rw [hn h1]; exact hp, ht⟩)
    · replace h1 : x.serial = s := Decidable.not_not.1 h1
      conv => whnf
      refine ⟨by omega, fun r hr => ?_⟩
      obtain rfl := get_row hr hx
      conv => whnf
      (refine ⟨⟨by rw [hlo]; simp only [List.length_cons, List.length_nil]; omega, by rw [hlo]; simp only [List.length_cons, List.length_nil]; omega⟩, ?_⟩)
      conv => whnf
      refine ⟨⟨by rw [List.length_append, hlo]; simp only [List.length_cons, List.length_nil]; omega, by rw [List.length_append, hlo]; simp only [List.length_cons, List.length_nil]; omega⟩, ?_⟩
      conv => whnf
      refine ⟨Nat × Int × (List (List CV)), fun xq => ⟨[(0, L 7 (l.map encR)), (1, I s), (5, .osl 0), (6, I k), (7, I xq.2.1)], [(0, .row 28 7 xq.2.2)], 1⟩, fun xq => ((xq.1 ≤ out.length ∧ xq.2.1 = xq.1) ∧ xq.2.2 = (bub out x xq.1).map encR) ∧ ∀ y ∈ out.drop xq.1, earlier x y, fun xq => xq.1, ⟨(out.length, _, _), ?_, [(0, 1)], ⟨⟨rfl, rfl⟩, ⟨⟨rfl, rfl⟩, ⟨⟨rfl, rfl⟩, ⟨⟨rfl, rfl⟩, ⟨⟨rfl, rfl⟩, trivial⟩⟩⟩⟩⟩, ⟨⟨rfl, rfl, rfl⟩, trivial⟩, rfl, rfl⟩, ?_⟩
      · (try dsimp only); exact ⟨⟨⟨Nat.le_refl _, by rw [List.length_append, hlo]; simp⟩, by rw [bub_end, List.map_append]; rfl⟩, by simp⟩
      rintro ⟨j, m, es⟩ hk
      obtain ⟨⟨⟨hj, rfl⟩, rfl⟩, hdr⟩ : ((j ≤ out.length ∧ m = j) ∧ es = (bub out x j).map encR) ∧ ∀ y ∈ out.drop j, earlier x y := hk
      (try dsimp only)
      have hbl : ((bub out x j).map encR).length = out.length + 1 := by rw [List.length_map, bub_len]
      have hbx := bub_at (x := x) hj
      conv => whnf
      refine ⟨fun h2 => ?_, fun h2 => ?_⟩
      · have hj0 : 0 < j := by omega
        have hy1 : out[j - 1]? = some (out[j - 1]'(by omega)) := List.getElem?_eq_getElem (by omega)
        generalize out[j - 1]'(by omega) = y at hy1
        have hby := bub_pre (x := x) hj0 hy1
        have hsw := bub_swap (x := x) hj0 hj hy1
        have t1 : ((j : Int) - 1).toNat = j - 1 := by omega
        have t2 : ((j : Int)).toNat = j := by omega
        have hby' : (bub out x j)[((j : Int) - 1).toNat]? = some y := by rw [t1]; exact hby
        have hbx' : (bub out x j)[((j : Int)).toNat]? = some x := by rw [t2]; exact hbx
        repeat' ((conv => whnf); first | (refine ⟨⟨by omega, by omega⟩, ?_⟩) | refine load_at hby' ?_ | refine load_at hbx' ?_ | fail)
        conv => whnf
        refine ⟨_, earl_h, (x, y), trivial, leVs_of_eq rfl, .inr rfl, rfl, ?_⟩
        show norm (B (earlierB x y)) _
        conv => whnf
        refine ⟨fun h3 => ?_, fun h3 => ?_⟩
        · replace h3 : earlier x y := of_decide_eq_true h3
          repeat' ((conv => whnf); first | (refine ⟨⟨by omega, by omega⟩, ?_⟩) | refine load_at hby' ?_ | refine load_at hbx' ?_ | fail)
          conv => whnf
          refine ⟨⟨by omega, by rw [List.length_set]; omega⟩, ?_⟩
          conv => whnf
          refine get_at (r0 := encR y) (by rw [List.getElem?_set_ne (by omega), List.getElem?_map, hby']; rfl) ?_
          conv => whnf
          refine ⟨⟨by omega, by omega⟩, ?_⟩
          conv => whnf
          (refine ⟨(j - 1, _, _), ⟨?_, by dsimp only; omega⟩, [], ⟨⟨rfl, rfl⟩, ⟨⟨rfl, rfl⟩, ⟨⟨rfl, rfl⟩, ⟨⟨rfl, rfl⟩, ⟨⟨rfl, rfl⟩, trivial⟩⟩⟩⟩⟩, ⟨⟨rfl, rfl, rfl⟩, trivial⟩, rfl, rfl⟩; (try dsimp only); exact ⟨⟨⟨by omega, by omega⟩, by rw [t1, t2, ← hsw, List.map_set, List.map_set]; rfl⟩, fun z hz => by rw [drop_of hy1] at hz; rcases List.mem_cons.1 hz with h' | h'; subst h'; exact h3; rw [show j - 1 + 1 = j by omega] at h'; exact hdr z h'⟩)
        · replace h3 : ¬ earlier x y := of_decide_eq_false h3
          conv => whnf
          refine ⟨⟨by omega, by omega⟩, ?_⟩
          conv => whnf
          (refine ⟨(k + 1, _), ⟨?_, by dsimp only; omega⟩, [], ⟨⟨rfl, rfl⟩, ⟨⟨rfl, rfl⟩, ⟨⟨rfl, rfl⟩, ⟨⟨rfl, rfl⟩, trivial⟩⟩⟩⟩, ⟨⟨rfl, rfl, rfl⟩, trivial⟩, rfl, rfl⟩; (try dsimp only); exact ⟨by omega, bub out x j, rfl, by rw [hy h1]; exact (bub_perm out x j).trans (hp.append_right _), bub_time ht hdr (.inr ⟨y, hy1, h3⟩)⟩)
      · conv => whnf
        refine ⟨⟨by omega, by omega⟩, ?_⟩
        conv => whnf
        (refine ⟨(k + 1, _), ⟨?_, by dsimp only; omega⟩, [], ⟨⟨rfl, rfl⟩, ⟨⟨rfl, rfl⟩, ⟨⟨rfl, rfl⟩, ⟨⟨rfl, rfl⟩, trivial⟩⟩⟩⟩, ⟨⟨rfl, rfl, rfl⟩, trivial⟩, rfl, rfl⟩; (try dsimp only); exact ⟨by omega, bub out x j, rfl, by rw [hy h1]; exact (bub_perm out x j).trans (hp.append_right _), bub_time ht hdr (.inl (by omega))⟩)
  · rw [List.take_of_length_le (by omega)] at *
    conv => whnf
    refine ⟨fun h => absurd h (by omega), fun h => ?_⟩
    conv => whnf
    refine ⟨[], rfl, trivial, ?_⟩
    show leV (L 7 (out.map encR)) (L 7 ((ofF l s).map encR))
    rw [ofF_uniq hs hp ht]
    exact leV_refl _
theorem refOf_h : Holds Try.prog 24 refOfS := holds_of mix Try.func24 refOfLow (fun _ => rfl) refOfV

end Go.Proofs.Ytfghmpfiemmbgaa
