/- Periods: the rides of a period. -/
import Derived.Test.YtpkhannkbafimaaGreatRA
import Derived.Test.YtpkhannkbafimaaGreatShelf
namespace Go.Proofs.YtpkhannkbafimaaGreat
open Go.RowKit

/-! skiarea/period.Rides$1 -/
def orderRIr : IFn := ⟨17, [.tmp 4],
  (.seq (.ops [
    ⟨(some 2), .box, [.tmp 0], none⟩,
    ⟨(some 3), .box, [.tmp 1], none⟩,
    ⟨(some 4), .mov, [.const (.int .i64 0)], none⟩] false)
  (.seq (.ops [
    ⟨(some 5), .faddr 0, [.tmp 2], none⟩,
    ⟨(some 6), .load 1 false, [.tmp 5], none⟩,
    ⟨(some 7), .faddr 0, [.tmp 3], none⟩,
    ⟨(some 8), .load 1 false, [.tmp 7], none⟩,
    ⟨(some 9), .call 60, [.tmp 6, .tmp 8], none⟩,
    ⟨(some 10), .faddr 1, [.tmp 2], none⟩,
    ⟨(some 11), .load 1 false, [.tmp 10], none⟩,
    ⟨(some 12), .faddr 1, [.tmp 3], none⟩,
    ⟨(some 13), .load 1 false, [.tmp 12], none⟩,
    ⟨(some 14), .call 60, [.tmp 11, .tmp 13], none⟩,
    ⟨(some 15), .buildSl 3 1, [.tmp 9, .tmp 14], none⟩,
    ⟨(some 16), .call 59, [.tmp 15], none⟩,
    ⟨(some 4), .mov, [.tmp 16], none⟩] true)
  .ret))⟩
theorem orderRLow : lowF Tryz.prog {} Tryz.f58 = some orderRIr := by kernel_rfl
def orderRS : Spec := spec (Ride × Ride) (fun p => [aD p.1, aD p.2]) (fun _ => True) (fun p => I (cmpR p.1 p.2))
theorem orderRV [DrFlag] : fnV Tryz.prog orderRIr orderRS := by
  intro ⟨x, y⟩ hx
  repeat' ((conv => whnf); first | (refine ⟨fun h => ?_, fun h => ?_⟩ <;> try (exfalso; omega)) | refine ⟨_, compare_h, (_, _), trivial, leVs_of_eq rfl, .inr rfl, rfl, ?_⟩ | refine ⟨_, or_h, [_, _], (by show (2 : Nat) ≤ 1000; omega), leVs_of_eq rfl, .inr rfl, rfl, ?_⟩ | refine ⟨[], rfl, trivial, congrArg CV.bool ?_⟩ | refine ⟨[], rfl, trivial, congrArg (CV.int .i64) ?_⟩ | refine ⟨⟨by omega, by omega⟩, ?_⟩ | refine ⟨by omega, ?_⟩ | fail)
  all_goals rfl
theorem orderR_h [DrFlag] : Holds Tryz.prog 58 orderRS := holds_of mix Tryz.func58 orderRLow (fun _ => rfl) orderRV
theorem swoR : Go.Sort.SWO (ltOf fun x y : {_x : Ride // True} => cmpR x.1 y.1) := {
  irrefl := fun x => by simp only [ltOf, decide_eq_false_iff_not, cmpR_lt]; unfold befD; omega
  trans := fun x y z h1 h2 => by simp only [ltOf, decide_eq_true_eq, cmpR_lt] at *; unfold befD at *; omega
  ntrans := fun x y z h1 h2 => by simp only [ltOf, decide_eq_false_iff_not, cmpR_lt] at *; unfold befD at *; omega }
theorem sortR_h : HoldsM Tryz.prog 57 (sortM 37 7 encD 58 [] (fun _ => True) cmpR) :=
  haveI : Inhabited {_x : Ride // True} := ⟨⟨ride0, trivial⟩⟩
  sort_holds (k := 7) (cR := encD) Tryz.sortR (fun _ => by kernel_rfl) (fun _ => by kernel_rfl) (fun x c hc => by simp [encD] at hc; rcases hc with rfl | rfl | rfl | rfl | rfl | rfl | rfl <;> rfl) (fun _ => rfl) cmpR swoR 58 [] (by kernel_rfl) (fun x F w vs _ hF hr => @orderR_h ⟨true⟩ x F w vs trivial hF hr) 37
def ridP (b : Bk) : Prop := (b.rs.map keyC).Nodup ∧ b.rs.length ≤ 1000000

/-! skiarea/period.Rides -/
def ridesIr : IFn := ⟨28, [.tmp 4],
  (.seq (.ops [
    ⟨(some 2), .box, [.tmp 0], none⟩,
    ⟨(some 4), .mov, [.const (.slice none 0 0)], none⟩] false)
  (.seq (.ops [
    ⟨(some 5), .nilOwn 37 7, [], none⟩] false)
  (.seq (.seq (.ops [
    ⟨(some 8), .faddr 2, [.tmp 2], none⟩,
    ⟨(some 9), .load 1 false, [.tmp 8], none⟩,
    ⟨(some 10), .len, [.tmp 9], none⟩,
    ⟨(some 11), .mov, [.const (.int .i64 0)], none⟩] false)
  (.block 0
    (.loop
      (.seq (.ops [
        ⟨(some 12), .cmp .lss, [.tmp 11, .tmp 10], none⟩] false)
      (.seq (.cond (.tmp 12)
        .skip
        (.exit 0))
      (.seq (.block 1
        (.seq (.ops [
          ⟨(some 13), .idx 8, [.tmp 9, .tmp 11], none⟩,
          ⟨(some 14), .load 8 true, [.tmp 13], none⟩,
          ⟨(some 7), .alloc [.int .i64 0, .int .i64 0, .int .i64 0, .int .i64 0, .int .i64 0, .int .i64 0, .int .i64 0, .int .i64 0], [], none⟩,
          ⟨none, .store 8, [.tmp 7, .tmp 14], none⟩] false)
        (.seq (.ops [
          ⟨(some 15), .faddr 0, [.tmp 7], none⟩,
          ⟨(some 16), .load 1 false, [.tmp 15], none⟩,
          ⟨(some 17), .mov, [.tmp 1], none⟩,
          ⟨(some 18), .cmp .eql, [.tmp 16, .tmp 17], none⟩] false)
        (.cond (.tmp 18)
          (.ops [
            ⟨(some 19), .mov, [.tmp 5], none⟩,
            ⟨(some 20), .faddr 1, [.tmp 7], none⟩,
            ⟨(some 21), .load 7 true, [.tmp 20], none⟩,
            ⟨(some 22), .buildSl 37 7, [.tmp 21], none⟩,
            ⟨(some 23), .append 37 7 56, [.tmp 19, .tmp 22], none⟩,
            ⟨(some 5), .mov, [.tmp 23], none⟩] false)
          .skip))))
      (.ops [
        ⟨(some 24), .bin .add .i64 false, [.tmp 11, .const (.int .i64 1)], none⟩,
        ⟨(some 11), .mov, [.tmp 24], none⟩] false)))))))
  (.seq (.ops [
    ⟨(some 25), .mov, [.tmp 5], none⟩,
    ⟨(some 26), .callm 57, [.tmp 25, .func 58], none⟩] false)
  (.seq (.ops [
    ⟨(some 27), .mov, [.tmp 5], none⟩,
    ⟨(some 4), .mov, [.tmp 27], none⟩] false)
  .ret)))))⟩
theorem ridesLow : lowF Tryz.prog { owns := [(5, 37)], muts := [26] } Tryz.f23 = some ridesIr := by kernel_rfl
def ridesS : Spec := spec (Bk × Int) (fun p => [aB p.1, I p.2]) (fun p => ridP p.1) (fun p => L 7 ((ridesOf p.1 p.2).map encD))
set_option maxHeartbeats 1000000 in
theorem ridesV : fnV Tryz.prog ridesIr ridesS := by
  intro ⟨(b : Bk), (n : Int)⟩ hp
  obtain ⟨hK, hl⟩ : (b.rs.map keyC).Nodup ∧ b.rs.length ≤ 1000000 := hp
  have hlr : (b.rs.map encC).length = b.rs.length := List.length_map ..
  show vc _ _ _ _ ⟨argEnv 0 [aB b, I n], [], 0⟩
  conv => whnf
  refine ⟨Nat × (List (List CV)), fun xq => ⟨[(1, I n), (5, .osl 0), (9, L 8 (b.rs.map encC)), (10, I (b.rs.map encC).length), (11, I xq.1)], [(0, .row 37 7 xq.2)], 1⟩, fun xq => xq.1 ≤ b.rs.length ∧ xq.2 = (filtR (b.rs.take xq.1) n).map encD, fun xq => b.rs.length - xq.1, ⟨(0, _), ?_, [(0, 1)], ⟨⟨rfl, rfl⟩, ⟨⟨rfl, rfl⟩, ⟨⟨rfl, rfl⟩, ⟨⟨rfl, rfl⟩, ⟨⟨rfl, rfl⟩, trivial⟩⟩⟩⟩⟩, ⟨⟨rfl, rfl, rfl⟩, trivial⟩, rfl, rfl, rfl⟩, ?_⟩
  · (try dsimp only); exact ⟨Nat.zero_le _, rfl⟩
  rintro ⟨k, es⟩ hk
  obtain ⟨hk, rfl⟩ : k ≤ b.rs.length ∧ es = (filtR (b.rs.take k) n).map encD := hk
  (try dsimp only)
  have hfl := filtR_len b.rs n k
  have hlo : ((filtR (b.rs.take k) n).map encD).length = (filtR (b.rs.take k) n).length := List.length_map ..
  by_cases hkl : k < b.rs.length
  · obtain ⟨x, hx⟩ := getElem_some hkl
    by_cases hn : x.per = n
    · have hy := filtR_yes hx hn
      generalize filtR (b.rs.take k) n = out at *
      repeat' ((conv => whnf); first | (refine ⟨(k + 1, _), ⟨?_, by (try dsimp only); omega⟩, [(0, 2)], ⟨⟨rfl, rfl⟩, ⟨⟨rfl, rfl⟩, ⟨⟨rfl, rfl⟩, ⟨⟨rfl, rfl⟩, ⟨⟨rfl, rfl⟩, trivial⟩⟩⟩⟩⟩, ⟨⟨rfl, rfl, rfl⟩, trivial⟩, rfl, rfl, rfl⟩; (try dsimp only); exact ⟨by omega, by rw [hy, List.map_append]; rfl⟩) | (refine ⟨fun h => ?_, fun h => ?_⟩ <;> try (exfalso; first | omega | exact absurd h (by decide) | exact h rfl | exact absurd (show true = false from h) (by decide) | exact absurd (show false = true from h) (by decide))) | (refine ⟨by omega, fun r hrr => ?_⟩; first | ((have hre : r = encC x := by (first | exact get_row hrr hx | fail)); subst hre)) | (refine ⟨⟨by first | omega | (simp only [List.length_nil]; omega) | (simp only [List.length_cons, List.length_nil]; omega), by first | omega | (simp only [List.length_nil]; omega) | (simp only [List.length_cons, List.length_nil]; omega)⟩, ?_⟩) | refine ⟨⟨by omega, by omega⟩, ?_⟩ | fail)
    · have hy := filtR_no hx hn
      repeat' ((conv => whnf); first | (refine ⟨(k + 1, _), ⟨?_, by (try dsimp only); omega⟩, [], ⟨⟨rfl, rfl⟩, ⟨⟨rfl, rfl⟩, ⟨⟨rfl, rfl⟩, ⟨⟨rfl, rfl⟩, ⟨⟨rfl, rfl⟩, trivial⟩⟩⟩⟩⟩, ⟨⟨rfl, rfl, rfl⟩, trivial⟩, rfl, rfl, rfl⟩; (try dsimp only); exact ⟨by omega, by rw [hy]⟩) | (refine ⟨fun h => ?_, fun h => ?_⟩ <;> try (exfalso; first | omega | exact absurd h (by decide) | exact h rfl | exact absurd (show true = false from h) (by decide) | exact absurd (show false = true from h) (by decide))) | (refine ⟨by omega, fun r hrr => ?_⟩; first | ((have hre : r = encC x := by (first | exact get_row hrr hx | fail)); subst hre)) | refine ⟨⟨by omega, by omega⟩, ?_⟩ | fail)
  · rw [take_end hkl] at hfl hlo ⊢
    repeat' ((conv => whnf); first | (refine ⟨fun h => ?_, fun h => ?_⟩ <;> try (exfalso; first | omega | exact absurd h (by decide) | exact h rfl | exact absurd (show true = false from h) (by decide) | exact absurd (show false = true from h) (by decide))) | fail | fail)
    conv => whnf
    refine ⟨_, sortR_h, filtR b.rs n, ⟨fun _ _ => trivial, by omega⟩, ⟨rfl, rfl⟩, rfl, leVs_of_eq rfl, ?_⟩
    rintro _ ⟨ys, rfl, hpm, hpw⟩
    conv => whnf
    refine ⟨[], rfl, trivial, ?_⟩
    show leV (L 7 (ys.map encD)) (L 7 ((ridesOf b n).map encD))
    rw [rides_uniq hK hpm (hpw.imp fun h h' => h ((cmpR_lt _ _).2 h'))]
    exact leV_refl _
theorem rides_h : Holds Tryz.prog 23 ridesS := holds_of mix Tryz.func23 ridesLow (fun _ => rfl) ridesV

/-! skiarea/skiarearef38.Rides -/
def rridesIr : IFn := ⟨86, [.tmp 4],
  (.seq (.ops [
    ⟨(some 2), .box, [.tmp 0], none⟩,
    ⟨(some 4), .mov, [.const (.slice none 0 0)], none⟩] false)
  (.seq (.ops [
    ⟨(some 5), .nilOwn 37 7, [], none⟩] false)
  (.seq (.seq (.ops [
    ⟨(some 6), .mov, [.const (.int .i64 0)], none⟩] false)
  (.block 0
    (.loop
      (.seq (.seq (.ops [
        ⟨(some 9), .mov, [.tmp 6], none⟩,
        ⟨(some 10), .faddr 2, [.tmp 2], none⟩,
        ⟨(some 11), .load 1 false, [.tmp 10], none⟩,
        ⟨(some 12), .len, [.tmp 11], none⟩,
        ⟨(some 13), .cmp .lss, [.tmp 9, .tmp 12], none⟩] false)
      (.cond (.tmp 13)
        .skip
        (.exit 0)))
      (.seq (.block 1
        (.seq (.ops [
          ⟨(some 16), .faddr 2, [.tmp 2], none⟩,
          ⟨(some 17), .load 1 false, [.tmp 16], none⟩,
          ⟨(some 18), .mov, [.tmp 6], none⟩,
          ⟨(some 19), .idx 8, [.tmp 17, .tmp 18], none⟩,
          ⟨(some 20), .faddr 1, [.tmp 19], none⟩,
          ⟨(some 21), .load 7 true, [.tmp 20], none⟩,
          ⟨(some 7), .alloc [.int .i64 0, .int .i64 0, .int .i64 0, .int .i64 0, .int .i64 0, .int .i64 0, .int .i64 0], [], none⟩,
          ⟨none, .store 7, [.tmp 7, .tmp 21], none⟩] false)
        (.seq (.seq (.ops [
          ⟨(some 22), .faddr 2, [.tmp 2], none⟩,
          ⟨(some 23), .load 1 false, [.tmp 22], none⟩,
          ⟨(some 24), .mov, [.tmp 6], none⟩,
          ⟨(some 25), .idx 8, [.tmp 23, .tmp 24], none⟩,
          ⟨(some 26), .faddr 0, [.tmp 25], none⟩,
          ⟨(some 27), .load 1 false, [.tmp 26], none⟩,
          ⟨(some 28), .mov, [.tmp 1], none⟩,
          ⟨(some 29), .cmp .neq, [.tmp 27, .tmp 28], none⟩] false)
        (.cond (.tmp 29)
          (.exit 1)
          .skip))
        (.seq (.ops [
          ⟨(some 30), .mov, [.tmp 5], none⟩,
          ⟨(some 31), .len, [.tmp 30], none⟩,
          ⟨(some 8), .mov, [.tmp 31], none⟩] false)
        (.seq (.ops [
          ⟨(some 32), .mov, [.tmp 5], none⟩,
          ⟨(some 33), .load 7 true, [.tmp 7], none⟩,
          ⟨(some 34), .buildSl 37 7, [.tmp 33], none⟩,
          ⟨(some 35), .append 37 7 56, [.tmp 32, .tmp 34], none⟩,
          ⟨(some 5), .mov, [.tmp 35], none⟩] false)
        (.seq (.block 2
          (.loop
            (.seq (.seq (.ops [
              ⟨(some 36), .mov, [.tmp 8], none⟩,
              ⟨(some 37), .cmp .gtr, [.tmp 36, .const (.int .i64 0)], none⟩,
              ⟨(some 38), .mov, [.tmp 37], none⟩,
              ⟨(some 39), .mov, [.tmp 5], (some (38, true))⟩,
              ⟨(some 40), .mov, [.tmp 8], (some (38, true))⟩,
              ⟨(some 41), .bin .sub .i64 false, [.tmp 40, .const (.int .i64 1)], (some (38, true))⟩,
              ⟨(some 42), .idx 7, [.tmp 39, .tmp 41], (some (38, true))⟩,
              ⟨(some 43), .faddr 0, [.tmp 42], (some (38, true))⟩,
              ⟨(some 44), .load 1 false, [.tmp 43], (some (38, true))⟩,
              ⟨(some 45), .faddr 0, [.tmp 7], (some (38, true))⟩,
              ⟨(some 46), .load 1 false, [.tmp 45], (some (38, true))⟩,
              ⟨(some 47), .cmp .gtr, [.tmp 44, .tmp 46], (some (38, true))⟩,
              ⟨(some 48), .mov, [.tmp 47], (some (38, true))⟩,
              ⟨(some 49), .mov, [.tmp 5], (some (48, false))⟩,
              ⟨(some 50), .mov, [.tmp 8], (some (48, false))⟩,
              ⟨(some 51), .bin .sub .i64 false, [.tmp 50, .const (.int .i64 1)], (some (48, false))⟩,
              ⟨(some 52), .idx 7, [.tmp 49, .tmp 51], (some (48, false))⟩,
              ⟨(some 53), .faddr 0, [.tmp 52], (some (48, false))⟩,
              ⟨(some 54), .load 1 false, [.tmp 53], (some (48, false))⟩,
              ⟨(some 55), .faddr 0, [.tmp 7], (some (48, false))⟩,
              ⟨(some 56), .load 1 false, [.tmp 55], (some (48, false))⟩,
              ⟨(some 57), .cmp .eql, [.tmp 54, .tmp 56], (some (48, false))⟩,
              ⟨(some 58), .mov, [.tmp 57], (some (48, false))⟩,
              ⟨(some 59), .mov, [.tmp 5], (some (58, true))⟩,
              ⟨(some 60), .mov, [.tmp 8], (some (58, true))⟩,
              ⟨(some 61), .bin .sub .i64 false, [.tmp 60, .const (.int .i64 1)], (some (58, true))⟩,
              ⟨(some 62), .idx 7, [.tmp 59, .tmp 61], (some (58, true))⟩,
              ⟨(some 63), .faddr 1, [.tmp 62], (some (58, true))⟩,
              ⟨(some 64), .load 1 false, [.tmp 63], (some (58, true))⟩,
              ⟨(some 65), .faddr 1, [.tmp 7], (some (58, true))⟩,
              ⟨(some 66), .load 1 false, [.tmp 65], (some (58, true))⟩,
              ⟨(some 67), .cmp .gtr, [.tmp 64, .tmp 66], (some (58, true))⟩,
              ⟨(some 68), .pick, [.tmp 58, .tmp 67, .const (.bool false)], (some (48, false))⟩,
              ⟨(some 69), .pick, [.tmp 48, .const (.bool true), .tmp 68], (some (38, true))⟩,
              ⟨(some 70), .pick, [.tmp 38, .tmp 69, .const (.bool false)], none⟩] true)
            (.cond (.tmp 70)
              .skip
              (.exit 2)))
            (.block 3
              (.seq (.ops [
                ⟨(some 71), .mov, [.tmp 5], none⟩,
                ⟨(some 72), .mov, [.tmp 8], none⟩,
                ⟨(some 73), .mov, [.tmp 5], none⟩,
                ⟨(some 74), .mov, [.tmp 8], none⟩,
                ⟨(some 75), .bin .sub .i64 false, [.tmp 74, .const (.int .i64 1)], none⟩,
                ⟨(some 76), .idx 7, [.tmp 73, .tmp 75], none⟩,
                ⟨(some 77), .load 7 true, [.tmp 76], none⟩,
                ⟨(some 78), .idx 7, [.tmp 71, .tmp 72], none⟩,
                ⟨none, .store 7, [.tmp 78, .tmp 77], none⟩] false)
              (.ops [
                ⟨(some 79), .mov, [.tmp 8], none⟩,
                ⟨(some 80), .bin .sub .i64 false, [.tmp 79, .const (.int .i64 1)], none⟩,
                ⟨(some 8), .mov, [.tmp 80], none⟩] false))))))
        (.ops [
          ⟨(some 81), .mov, [.tmp 5], none⟩,
          ⟨(some 82), .mov, [.tmp 8], none⟩,
          ⟨(some 83), .load 7 true, [.tmp 7], none⟩,
          ⟨(some 84), .idx 7, [.tmp 81, .tmp 82], none⟩,
          ⟨none, .store 7, [.tmp 84, .tmp 83], none⟩] false)))))))
      (.ops [
        ⟨(some 14), .mov, [.tmp 6], none⟩,
        ⟨(some 15), .bin .add .i64 false, [.tmp 14, .const (.int .i64 1)], none⟩,
        ⟨(some 6), .mov, [.tmp 15], none⟩] false))))))
  (.seq (.ops [
    ⟨(some 85), .mov, [.tmp 5], none⟩,
    ⟨(some 4), .mov, [.tmp 85], none⟩] false)
  .ret))))⟩
theorem rridesLow : lowF Tryz.prog { owns := [(5, 37)] } Tryz.f24 = some rridesIr := by kernel_rfl
def rridesS : Spec := spec (Bk × Int) (fun p => [aB p.1, I p.2]) (fun p => ridP p.1) (fun p => L 7 ((ridesOf p.1 p.2).map encD))
set_option maxHeartbeats 2000000 in
theorem rridesV : fnV Tryz.prog rridesIr rridesS := by
  intro ⟨(b : Bk), (n : Int)⟩ hp
  obtain ⟨hK, hl⟩ : (b.rs.map keyC).Nodup ∧ b.rs.length ≤ 1000000 := hp
  have hlr : (b.rs.map encC).length = b.rs.length := List.length_map ..
  show vc _ _ _ _ ⟨argEnv 0 [aB b, I n], [], 0⟩
  conv => whnf
  refine ⟨Nat × (List (List CV)), fun xq => ⟨[(1, I n), (2, .bp 0 0), (5, .osl 1), (6, I xq.1)], [(0, bB' b), (1, .row 37 7 xq.2)], 2⟩, fun xq => xq.1 ≤ b.rs.length ∧ ∃ out : List Ride, xq.2 = out.map encD ∧ out.Perm (filtR (b.rs.take xq.1) n) ∧ out.Pairwise befD, fun xq => b.rs.length - xq.1, ⟨(0, _), ?_, [], ⟨⟨rfl, rfl⟩, ⟨⟨rfl, rfl⟩, ⟨⟨rfl, rfl⟩, ⟨⟨rfl, rfl⟩, trivial⟩⟩⟩⟩, ⟨⟨rfl, rfl, rfl⟩, ⟨⟨rfl, rfl, rfl⟩, trivial⟩⟩, rfl, rfl, rfl⟩, ?_⟩
  · (try dsimp only); exact ⟨Nat.zero_le _, [], rfl, .refl _, .nil⟩
  rintro ⟨k, es⟩ hk
  obtain ⟨hk, out, rfl, hpm, hso⟩ : k ≤ b.rs.length ∧ ∃ out : List Ride, es = out.map encD ∧ out.Perm (filtR (b.rs.take k) n) ∧ out.Pairwise befD := hk
  (try dsimp only)
  have hfl := filtR_len b.rs n k
  rw [← hpm.length_eq] at hfl
  have hlo : (out.map encD).length = out.length := List.length_map ..
  by_cases hkl : k < b.rs.length
  · obtain ⟨x, hx⟩ := getElem_some hkl
    by_cases hn : x.per = n
    · have hy := filtR_yes hx hn
      have hap := fun y hy => filtR_apart hK (n := n) hx y (hpm.mem_iff.1 hy)
      repeat' ((conv => whnf); first | (refine ⟨fun h => ?_, fun h => ?_⟩ <;> try (exfalso; first | omega | exact absurd h (by decide) | exact h rfl | exact absurd (show true = false from h) (by decide) | exact absurd (show false = true from h) (by decide))) | (refine ⟨by omega, fun r hrr => ?_⟩; first | ((have hre : r = encC x := by (first | exact get_row hrr hx | fail)); subst hre)) | (refine ⟨⟨by first | omega | (simp only [List.length_nil]; omega) | (simp only [List.length_cons, List.length_nil]; omega), by first | omega | (simp only [List.length_nil]; omega) | (simp only [List.length_cons, List.length_nil]; omega)⟩, ?_⟩) | fail | fail)
      refine ⟨Nat × (List (List CV)), fun xq => ⟨[(1, I n), (2, .bp 0 0), (5, .osl 1), (6, I k), (7, .bp 2 0), (8, I xq.1)], [(0, bB' b), (1, .row 37 7 xq.2), (2, .box ((encD x.r).map .c))], 3⟩, fun xq => xq.1 ≤ out.length ∧ (∃ y, xq.2 = (bubR out y xq.1).map encD) ∧ ∀ y ∈ out.drop xq.1, befD x.r y, fun xq => xq.1, ⟨((out.map encD).length, _), ?_, [(1, 3)], ⟨⟨rfl, rfl⟩, ⟨⟨rfl, rfl⟩, ⟨⟨rfl, rfl⟩, ⟨⟨rfl, rfl⟩, ⟨⟨rfl, rfl⟩, ⟨⟨rfl, rfl⟩, trivial⟩⟩⟩⟩⟩⟩, ⟨⟨rfl, rfl, rfl⟩, ⟨⟨rfl, rfl, rfl⟩, ⟨⟨rfl, rfl, rfl⟩, trivial⟩⟩⟩, rfl, rfl, rfl⟩, ?_⟩
      · (try dsimp only); rw [hlo]; exact ⟨Nat.le_refl _, ⟨x.r, by rw [bub_end, List.map_append]; rfl⟩, by rw [List.drop_length]; simp⟩
      rintro ⟨j, es⟩ hk
      obtain ⟨hj, ⟨y, rfl⟩, hd⟩ : j ≤ out.length ∧ (∃ y, es = (bubR out y j).map encD) ∧ ∀ y ∈ out.drop j, befD x.r y := hk
      (try dsimp only)
      have hbl : ((bubR out y j).map encD).length = out.length + 1 := by rw [List.length_map, bub_len]
      have hkj : ((bubR out y j).map encD)[((j : Nat) : Int).toNat]? = some (encD y) := by rw [Int.toNat_natCast, List.getElem?_map, bub_at hj]; rfl
      have hset : ((bubR out y j).map encD).set ((j : Nat) : Int).toNat (encD x.r) = (bubR out x.r j).map encD := by rw [Int.toNat_natCast, ← List.map_set, bub_set hj]
      have hend : (∀ i o, j = i + 1 → out[i]? = some o → befD o x.r) → (bubR out x.r j).Perm (filtR (b.rs.take (k + 1)) n) ∧ (bubR out x.r j).Pairwise befD := fun h => ⟨(bub_perm out x.r j).trans (by rw [hy]; exact hpm.append_right _), bub_sorted hso hj hd h⟩
      by_cases hj0 : j = 0
      · obtain ⟨q1, q2⟩ := hend fun i o e => by omega
        repeat' ((conv => whnf); first | (refine ⟨fun h => ?_, fun h => ?_⟩ <;> try (exfalso; first | omega | exact absurd h (by decide) | exact h rfl | exact absurd (show true = false from h) (by decide) | exact absurd (show false = true from h) (by decide))) | refine get_at hkj ?_ | (refine ⟨⟨by omega, by omega⟩, ?_⟩) | (refine ⟨(k + 1, _), ⟨?_, by (try dsimp only); omega⟩, [], ⟨⟨rfl, rfl⟩, ⟨⟨rfl, rfl⟩, ⟨⟨rfl, rfl⟩, ⟨⟨rfl, rfl⟩, trivial⟩⟩⟩⟩, ⟨⟨rfl, rfl, rfl⟩, ⟨⟨rfl, rfl, rfl⟩, trivial⟩⟩, rfl, rfl, rfl⟩; (try dsimp only); exact ⟨by omega, _, hset, q1, q2⟩) | refine ⟨⟨by omega, by omega⟩, ?_⟩ | fail)
      · obtain ⟨i, rfl⟩ : ∃ i, j = i + 1 := ⟨j - 1, by omega⟩
        obtain ⟨o, ho⟩ := getElem_some (show i < out.length by omega)
        have hm1 : ((i + 1 : Nat) : Int) - 1 = (i : Nat) := by omega
        have hoi : ((bubR out y (i + 1)).map encD)[((i : Nat) : Int).toNat]? = some (encD o) := by rw [Int.toNat_natCast, List.getElem?_map, bub_get (by omega) hj, ho]; rfl
        have hbd : befD x.r o = (x.r.gate < o.gate ∨ (x.r.gate = o.gate ∧ x.r.seq < o.seq)) := rfl
        by_cases hbf : befD x.r o
        · have hd' : ∀ z ∈ out.drop i, befD x.r z := by
            intro z hz
            rw [drop_of ho] at hz
            rcases List.mem_cons.1 hz with rfl | hz
            · exact hbf
            · exact hd z hz
          have hsh : ((bubR out y (i + 1)).map encD).set ((i + 1 : Nat) : Int).toNat (encD o) = (bubR out o i).map encD := by rw [Int.toNat_natCast, ← List.map_set, bub_set hj, bub_shift ho]
          rw [hbd] at hbf
          repeat' ((conv => whnf); first | (refine ⟨fun h => ?_, fun h => ?_⟩ <;> try (exfalso; first | omega | exact absurd h (by decide) | exact h rfl | exact absurd (show true = false from h) (by decide) | exact absurd (show false = true from h) (by decide))) | refine get_at hoi ?_ | refine get_at hkj ?_ | (refine ⟨⟨by omega, by omega⟩, ?_⟩; rw [hm1]) | (refine ⟨⟨by omega, by omega⟩, ?_⟩) | (refine ⟨(i, _), ⟨?_, by (try dsimp only); omega⟩, [], ⟨⟨rfl, rfl⟩, ⟨⟨rfl, rfl⟩, ⟨⟨rfl, rfl⟩, ⟨⟨rfl, rfl⟩, ⟨⟨rfl, rfl⟩, ⟨⟨rfl, rfl⟩, trivial⟩⟩⟩⟩⟩⟩, ⟨⟨rfl, rfl, rfl⟩, ⟨⟨rfl, rfl, rfl⟩, ⟨⟨rfl, rfl, rfl⟩, trivial⟩⟩⟩, rfl, rfl, rfl⟩; (try dsimp only); exact ⟨by omega, ⟨o, hsh⟩, hd'⟩) | refine ⟨⟨by omega, by omega⟩, ?_⟩ | fail)
        · obtain ⟨q1, q2⟩ := hend fun i' o' e ho' => by
            obtain rfl : i = i' := by omega
            rw [ho] at ho'; cases ho'
            exact befD_total hbf (hap o (List.mem_of_getElem? ho))
          rw [hbd] at hbf
          repeat' ((conv => whnf); first | (refine ⟨fun h => ?_, fun h => ?_⟩ <;> try (exfalso; first | omega | exact absurd h (by decide) | exact h rfl | exact absurd (show true = false from h) (by decide) | exact absurd (show false = true from h) (by decide))) | refine get_at hoi ?_ | refine get_at hkj ?_ | (refine ⟨⟨by omega, by omega⟩, ?_⟩; rw [hm1]) | (refine ⟨⟨by omega, by omega⟩, ?_⟩) | (refine ⟨(k + 1, _), ⟨?_, by (try dsimp only); omega⟩, [], ⟨⟨rfl, rfl⟩, ⟨⟨rfl, rfl⟩, ⟨⟨rfl, rfl⟩, ⟨⟨rfl, rfl⟩, trivial⟩⟩⟩⟩, ⟨⟨rfl, rfl, rfl⟩, ⟨⟨rfl, rfl, rfl⟩, trivial⟩⟩, rfl, rfl, rfl⟩; (try dsimp only); exact ⟨by omega, _, hset, q1, q2⟩) | refine ⟨⟨by omega, by omega⟩, ?_⟩ | fail)
    · have hy := filtR_no hx hn
      repeat' ((conv => whnf); first | (refine ⟨(k + 1, _), ⟨?_, by (try dsimp only); omega⟩, [], ⟨⟨rfl, rfl⟩, ⟨⟨rfl, rfl⟩, ⟨⟨rfl, rfl⟩, ⟨⟨rfl, rfl⟩, trivial⟩⟩⟩⟩, ⟨⟨rfl, rfl, rfl⟩, ⟨⟨rfl, rfl, rfl⟩, trivial⟩⟩, rfl, rfl, rfl⟩; (try dsimp only); exact ⟨by omega, out, rfl, by rw [hy]; exact hpm, hso⟩) | (refine ⟨fun h => ?_, fun h => ?_⟩ <;> try (exfalso; first | omega | exact absurd h (by decide) | exact h rfl | exact absurd (show true = false from h) (by decide) | exact absurd (show false = true from h) (by decide))) | (refine ⟨by omega, fun r hrr => ?_⟩; first | ((have hre : r = encC x := by (first | exact get_row hrr hx | fail)); subst hre)) | refine ⟨⟨by omega, by omega⟩, ?_⟩ | fail)
  · rw [take_end hkl] at hpm
    repeat' ((conv => whnf); first | (refine ⟨fun h => ?_, fun h => ?_⟩ <;> try (exfalso; first | omega | exact absurd h (by decide) | exact h rfl | exact absurd (show true = false from h) (by decide) | exact absurd (show false = true from h) (by decide))) | fail | fail)
    conv => whnf
    refine ⟨[], rfl, trivial, ?_⟩
    show leV (L 7 (out.map encD)) (L 7 ((ridesOf b n).map encD))
    rw [rides_uniq hK hpm (hso.imp fun h h' => by unfold befD at h h'; omega)]
    exact leV_refl _
theorem rrides_h : Holds Tryz.prog 24 rridesS := holds_of mix Tryz.func24 rridesLow (fun _ => rfl) rridesV

end Go.Proofs.YtpkhannkbafimaaGreat
