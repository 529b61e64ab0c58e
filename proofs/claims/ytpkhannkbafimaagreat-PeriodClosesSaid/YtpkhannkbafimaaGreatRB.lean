/- Periods: the rides of a period. -/
import Derived.Test.YtpkhannkbafimaaGreatRA
import Derived.Test.YtpkhannkbafimaaGreatShelf
namespace Go.Proofs.YtpkhannkbafimaaGreat
open Go.RowKit

/-! skiarea/period.Rides$1 -/
def orderRIr : IFn := ⟨17, [.tmp 4],
 (.seq (.ops [
 ⟨(some 2), .box, [.tmp 0], none⟩,
 ⟨(some 3), .box, [.tmp 1], none⟩,
 ⟨(some 4), .mov, [.const (.int .i64 0)], none⟩] false)
 (.seq (.ops [
 ⟨(some 5), .faddr 0, [.tmp 2], none⟩,
 ⟨(some 6), .load 1 false, [.tmp 5], none⟩,
 ⟨(some 7), .faddr 0, [.tmp 3], none⟩,
 ⟨(some 8), .load 1 false, [.tmp 7], none⟩,
 ⟨(some 9), .call 60, [.tmp 6, .tmp 8], none⟩,
 ⟨(some 10), .faddr 1, [.tmp 2], none⟩,
 ⟨(some 11), .load 1 false, [.tmp 10], none⟩,
 ⟨(some 12), .faddr 1, [.tmp 3], none⟩,
 ⟨(some 13), .load 1 false, [.tmp 12], none⟩,
 ⟨(some 14), .call 60, [.tmp 11, .tmp 13], none⟩,
 ⟨(some 15), .buildSl 3 1, [.tmp 9, .tmp 14], none⟩,
 ⟨(some 16), .call 59, [.tmp 15], none⟩,
 ⟨(some 4), .mov, [.tmp 16], none⟩] true)
 .ret))⟩
theorem orderRLow : lowF Tryz.prog {} Tryz.f58 = some orderRIr := by kernel_rfl
def orderRS : Spec := spec (Ride × Ride) (fun p => [aD p.1, aD p.2]) (fun _ => True) (fun p => I (cmpR p.1 p.2))
theorem orderRV [DrFlag] : fnV Tryz.prog orderRIr orderRS := by
  intro ⟨x, y⟩ hx
  repeat' ((conv => whnf); first | (refine ⟨fun h => ?_, fun h => ?_⟩ <;> try (exfalso; omega)) | refine ⟨_, compare_h, (_, _), trivial, leVs_of_eq rfl, .inr rfl, rfl, ?_⟩ | refine ⟨_, or_h, [_, _], (by show (2 : Nat) ≤ 1000; omega), leVs_of_eq rfl, .inr rfl, rfl, ?_⟩ | refine ⟨[], rfl, trivial, congrArg CV.bool ?_⟩ | refine ⟨[], rfl, trivial, congrArg (CV.int .i64) ?_⟩ | refine ⟨⟨by omega, by omega⟩, ?_⟩ | refine ⟨by omega, ?_⟩ | fail)
  all_goals rfl
theorem orderR_h [DrFlag] : Holds Tryz.prog 58 orderRS := holds_of mix Tryz.func58 orderRLow (fun _ => rfl) orderRV
theorem swoR : Go.Sort.SWO (ltOf fun x y : {_x : Ride // True} => cmpR x.1 y.1) := {
  irrefl := fun x => by simp only [ltOf, decide_eq_false_iff_not, cmpR_lt]; unfold befD; omega
  trans := fun x y z h1 h2 => by simp only [ltOf, decide_eq_true_eq, cmpR_lt] at *; unfold befD at *; omega
  ntrans := fun x y z h1 h2 => by simp only [ltOf, decide_eq_false_iff_not, cmpR_lt] at *; unfold befD at *; omega }
theorem sortR_h : HoldsM Tryz.prog 57 (sortM 37 7 encD 58 [] (fun _ => True) cmpR) :=
  haveI : Inhabited {_x : Ride // True} := ⟨⟨ride0, trivial⟩⟩
  sort_holds (k := 7) (cR := encD) Tryz.sortR (fun _ => by kernel_rfl) (fun _ => by kernel_rfl) (fun x c hc => by simp [encD] at hc; rcases hc with rfl | rfl | rfl | rfl | rfl | rfl | rfl <;> rfl) (fun _ => rfl) cmpR swoR 58 [] (by kernel_rfl) (fun x F w vs _ hF hr => @orderR_h ⟨true⟩ x F w vs trivial hF hr) 37
def ridP (b : Bk) : Prop := (b.rs.map keyC).Nodup ∧ b.rs.length ≤ 1000000

/-! skiarea/period.Rides -/
def ridesIr : IFn := ⟨28, [.tmp 4],
 (.seq (.ops [
 ⟨(some 2), .box, [.tmp 0], none⟩,
 ⟨(some 4), .mov, [.const (.slice none 0 0)], none⟩] false)
 (.seq (.ops [
 ⟨(some 5), .nilOwn 37 7, [], none⟩] false)
 (.seq (.seq (.ops [
 ⟨(some 8), .faddr 2, [.tmp 2], none⟩,
 ⟨(some 9), .load 1 false, [.tmp 8], none⟩,
 ⟨(some 10), .len, [.tmp 9], none⟩,
 ⟨(some 11), .mov, [.const (.int .i64 0)], none⟩] false)
 (.block 0
 (.loop
 (.seq (.ops [
 ⟨(some 12), .cmp .lss, [.tmp 11, .tmp 10], none⟩] false)
 (.seq (.cond (.tmp 12)
 .skip
 (.exit 0))
 (.seq (.block 1
 (.seq (.ops [
 ⟨(some 13), .idx 8, [.tmp 9, .tmp 11], none⟩,
 ⟨(some 14), .load 8 true, [.tmp 13], none⟩,
 ⟨(some 7), .alloc [.int .i64 0, .int .i64 0, .int .i64 0, .int .i64 0, .int .i64 0, .int .i64 0, .int .i64 0, .int .i64 0], [], none⟩,
 ⟨none, .store 8, [.tmp 7, .tmp 14], none⟩] false)
 (.seq (.ops [
 ⟨(some 15), .faddr 0, [.tmp 7], none⟩,
 ⟨(some 16), .load 1 false, [.tmp 15], none⟩,
 ⟨(some 17), .mov, [.tmp 1], none⟩,
 ⟨(some 18), .cmp .eql, [.tmp 16, .tmp 17], none⟩] false)
 (.cond (.tmp 18)
 (.ops [
 ⟨(some 19), .mov, [.tmp 5], none⟩,
 ⟨(some 20), .faddr 1, [.tmp 7], none⟩,
 ⟨(some 21), .load 7 true, [.tmp 20], none⟩,
 ⟨(some 22), .buildSl 37 7, [.tmp 21], none⟩,
 ⟨(some 23), .append 37 7 56, [.tmp 19, .tmp 22], none⟩,
 ⟨(some 5), .mov, [.tmp 23], none⟩] false)
 .skip))))
 (.ops [
 ⟨(some 24), .bin .add .i64 false, [.tmp 11, .const (.int .i64 1)], none⟩,
 ⟨(some 11), .mov, [.tmp 24], none⟩] false)))))))
 (.seq (.ops [
 ⟨(some 25), .mov, [.tmp 5], none⟩,
 ⟨(some 26), .callm 57, [.tmp 25, .func 58], none⟩] false)
 (.seq (.ops [
 ⟨(some 27), .mov, [.tmp 5], none⟩,
 ⟨(some 4), .mov, [.tmp 27], none⟩] false)
 .ret)))))⟩
theorem ridesLow : lowF Tryz.prog { owns := [(5, 37)], muts := [26] } Tryz.f23 = some ridesIr := by kernel_rfl
def ridesS : Spec := spec (Bk × Int) (fun p => [aB p.1, I p.2]) (fun p => ridP p.1) (fun p => L 7 ((ridesOf p.1 p.2).map encD))
set_option maxHeartbeats 1000000 in
theorem ridesV : fnV Tryz.prog ridesIr ridesS := by
  intro ⟨(b : Bk), (n : Int)⟩ hp
  obtain ⟨hK, hl⟩ : (b.rs.map keyC).Nodup ∧ b.rs.length ≤ 1000000 := hp
  have hlr : (b.rs.map encC).length = b.rs.length := List.length_map ..
  show vc _ _ _ _ ⟨argEnv 0 [aB b, I n], [], 0⟩
  conv => whnf
  refine ⟨Nat × (List (List CV)), fun xq => ⟨[(1, I n), (5, .osl 0), (9, L 8 (b.rs.map encC)), (10, I (b.rs.map encC).length), (11, I xq.1)], [(0, .row 37 7 xq.2)], 1⟩, fun xq => xq.1 ≤ b.rs.length ∧ xq.2 = (filtR (b.rs.take xq.1) n).map encD, fun xq => b.rs.length - xq.1, ⟨(0, _), ?_, [(0, 1)], ⟨⟨rfl, rfl⟩, ⟨⟨rfl, rfl⟩, ⟨⟨rfl, rfl⟩, ⟨⟨rfl, rfl⟩, ⟨⟨rfl, rfl⟩, trivial⟩⟩⟩⟩⟩, ⟨⟨rfl, rfl, rfl⟩, trivial⟩, rfl, rfl, rfl⟩, ?_⟩
  · (try dsimp only); exact ⟨Nat.zero_le _, rfl⟩
  rintro ⟨k, es⟩ hk
  obtain ⟨hk, rfl⟩ : k ≤ b.rs.length ∧ es = (filtR (b.rs.take k) n).map encD := hk
  (try dsimp only)
  have hfl := filtR_len b.rs n k
  have hlo : ((filtR (b.rs.take k) n).map encD).length = (filtR (b.rs.take k) n).length := List.length_map ..
  by_cases hkl : k < b.rs.length
  · obtain ⟨x, hx⟩ := getElem_some hkl
    by_cases hn : x.per = n
    · have hy := filtR_yes hx hn
      generalize filtR (b.rs.take k) n = out at *
      repeat' ((conv => whnf); first | (refine ⟨(k + 1, _), ⟨?_, by (try dsimp only); omega⟩, [(0, 2)], ⟨⟨rfl, rfl⟩, ⟨⟨rfl, rfl⟩, ⟨⟨rfl, rfl⟩, ⟨⟨rfl, rfl⟩, ⟨⟨rfl, rfl⟩, trivial⟩⟩⟩⟩⟩, ⟨⟨rfl, rfl, rfl⟩, trivial⟩, rfl, rfl, rfl⟩; (try dsimp only); exact ⟨by omega, by rw [hy, List.map_append]; rfl⟩) | (refine ⟨fun h => ?_, fun h => ?_⟩ <;> try (exfalso; first | omega | exact absurd h (by decide) | exact h rfl | exact absurd (show true = false from h) (by decide) | exact absurd (show false = true from h) (by decide))) | (refine ⟨by omega, fun r hrr => ?_⟩; first | ((have hre : r = encC x := by (first | exact get_row hrr hx | fail)); subst hre)) | (refine ⟨⟨by first | omega | (simp only [List.length_nil]; omega) | (simp only [List.length_cons, List.length_nil]; omega), by first | omega | (simp only [List.length_nil]; omega) | (simp only [List.length_cons, List.length_nil]; omega)⟩, ?_⟩) | refine ⟨⟨by omega, by omega⟩, ?_⟩ | fail)
    · have hy := filtR_no hx hn
      repeat' ((conv => whnf); first | (refine ⟨(k + 1, _), ⟨?_, by (try dsimp only); omega⟩, [], ⟨⟨rfl, rfl⟩, ⟨⟨rfl, rfl⟩, ⟨⟨rfl, rfl⟩, ⟨⟨rfl, rfl⟩, ⟨⟨rfl, rfl⟩, trivial⟩⟩⟩⟩⟩, ⟨⟨rfl, rfl, rfl⟩, trivial⟩, rfl, rfl, rfl⟩; (try dsimp only); exact ⟨by omega, by rw [hy]⟩) | (refine ⟨fun h => ?_, fun h => ?_⟩ <;> try (exfalso; first | omega | exact absurd h (by decide) | exact h rfl | exact absurd (show true = false from h) (by decide) | exact absurd (show false = true from h) (by decide))) | (refine ⟨by omega, fun r hrr => ?_⟩; first | ((have hre : r = encC x := by (first | exact get_row hrr hx | fail)); subst hre)) | refine ⟨⟨by omega, by omega⟩, ?_⟩ | fail)
  · rw [take_end hkl] at hfl hlo ⊢
    repeat' ((conv => whnf); first | (refine ⟨fun h => ?_, fun h => ?_⟩ <;> try (exfalso; first | omega | exact absurd h (by decide) | exact h rfl | exact absurd (show true = false from h) (by decide) | exact absurd (show false = true from h) (by decide))) | fail | fail)
    conv => whnf
    refine ⟨_, sortR_h, filtR b.rs n, ⟨fun _ _ => trivial, by omega⟩, ⟨rfl, rfl⟩, rfl, leVs_of_eq rfl, ?_⟩
    rintro _ ⟨ys, rfl, hpm, hpw⟩
    conv => whnf
    refine ⟨[], rfl, trivial, ?_⟩
    show leV (L 7 (ys.map encD)) (L 7 ((ridesOf b n).map encD))
    rw [rides_uniq hK hpm (hpw.imp fun h h' => h ((cmpR_lt _ _).2 h'))]
    exact leV_refl _
theorem rides_h : Holds Tryz.prog 23 ridesS := holds_of mix Tryz.func23 ridesLow (fun _ => rfl) ridesV

/-! skiarea/skiarearef38.Rides -/
end Go.Proofs.YtpkhannkbafimaaGreat
