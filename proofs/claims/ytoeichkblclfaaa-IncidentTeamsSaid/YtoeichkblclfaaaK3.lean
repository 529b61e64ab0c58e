/- Shortest paths: the program's Shortest. -/
import Derived.Test.YtoeichkblclfaaaK2
import Derived.Test.YtoeichkblclfaaaI2
namespace Go.Proofs.Ytoeichkblclfaaa
open Go.RowKit
/-- Does an edge begin a least path? -/
def nextB (D : DM) (n : Int) (v : Lab) (e : Ed) : Bool := match D e.to with
  | none => false
  | some w => decide (e.fr = n ∧ v = plusB w e)
structure NxX where
  l : List Ed
  ms : List (Int × Lab)
  n : Int
  v : Lab
def NxX.ok (x : NxX) : Prop := getM x.ms x.n = some x.v ∧ Bnd (getM x.ms) 1000000
abbrev nxIns (ms : List (Int × Lab)) (n : Int) : List Ob := [.box [.mp 2], .box [.c (.int .i64 n)], .map 0 true (kvD ms)]
def nx1S : GSpec := ⟨NxX × Ed, fun p => nxIns p.1.ms p.1.n, fun p => [aD p.2, .bp 0 0, .bp 1 0], fun p => p.1.ok ∧ 0 ≤ p.2.cost ∧ p.2.cost ≤ 1000000, fun p => B (nextB (getM p.1.ms) p.1.n p.1.v p.2), fun p => nxIns p.1.ms p.1.n, fun _ => []⟩
def eixS : GSpec := ⟨NxX, fun p => nxIns p.ms p.n, fun p => [L 4 (p.l.map encD), .fn 109 [.bp 0 0, .bp 1 0]], fun p => p.ok ∧ p.l.length ≤ 1000 ∧ OkE p.l, fun p => I (ixF (nextB (getM p.ms) p.n p.v) p.l), fun p => nxIns p.ms p.n, fun _ => []⟩
theorem nx1_call : callable Try.prog 109 = true := by kernel_rfl

/-! skiarea/graph.Shortest$1 -/
def nx1Ir : IFn := ⟨36, [.tmp 4],
  (.seq (.ops [
    ⟨(some 3), .box, [.tmp 0], none⟩,
    ⟨(some 4), .mov, [.const (.bool false)], none⟩] false)
  (.seq (.ops [
    ⟨(some 8), .load 1 false, [.tmp 1], none⟩,
    ⟨(some 9), .faddr 2, [.tmp 3], none⟩,
    ⟨(some 10), .load 1 false, [.tmp 9], none⟩,
    ⟨(some 11), .lookup [.int .i64 0, .int .i64 0] 0 true true, [.tmp 8, .tmp 10], none⟩,
    ⟨(some 7), .mov, [.tmp 11], none⟩,
    ⟨(some 12), .extract 0, [.tmp 7], none⟩,
    ⟨(some 13), .extract 1, [.tmp 7], none⟩,
    ⟨(some 5), .alloc [.int .i64 0, .int .i64 0], [], none⟩,
    ⟨none, .store 2, [.tmp 5, .tmp 12], none⟩,
    ⟨(some 6), .mov, [.tmp 13], none⟩] false)
  (.seq (.ops [
    ⟨(some 14), .mov, [.tmp 6], none⟩,
    ⟨(some 15), .mov, [.tmp 14], none⟩,
    ⟨(some 16), .faddr 1, [.tmp 3], (some (15, true))⟩,
    ⟨(some 17), .load 1 false, [.tmp 16], (some (15, true))⟩,
    ⟨(some 18), .load 1 false, [.tmp 2], (some (15, true))⟩,
    ⟨(some 19), .cmp .eql, [.tmp 17, .tmp 18], (some (15, true))⟩,
    ⟨(some 20), .pick, [.tmp 15, .tmp 19, .const (.bool false)], none⟩,
    ⟨(some 21), .mov, [.tmp 20], none⟩,
    ⟨(some 22), .load 1 false, [.tmp 1], (some (21, true))⟩,
    ⟨(some 23), .load 1 false, [.tmp 2], (some (21, true))⟩,
    ⟨(some 24), .lookup [.int .i64 0, .int .i64 0] 0 true false, [.tmp 22, .tmp 23], (some (21, true))⟩,
    ⟨(some 25), .faddr 0, [.tmp 5], (some (21, true))⟩,
    ⟨(some 26), .load 1 false, [.tmp 25], (some (21, true))⟩,
    ⟨(some 27), .faddr 3, [.tmp 3], (some (21, true))⟩,
    ⟨(some 28), .load 1 false, [.tmp 27], (some (21, true))⟩,
    ⟨(some 29), .bin .add .i64 false, [.tmp 26, .tmp 28], (some (21, true))⟩,
    ⟨(some 30), .faddr 1, [.tmp 5], (some (21, true))⟩,
    ⟨(some 31), .load 1 false, [.tmp 30], (some (21, true))⟩,
    ⟨(some 32), .bin .add .i64 false, [.tmp 31, .const (.int .i64 1)], (some (21, true))⟩,
    ⟨(some 33), .build [.int .i64 0, .int .i64 0] [(0, 1), (1, 1)], [.tmp 29, .tmp 32], (some (21, true))⟩,
    ⟨(some 34), .eqa [false, false] false, [.tmp 24, .tmp 33], (some (21, true))⟩,
    ⟨(some 35), .pick, [.tmp 21, .tmp 34, .const (.bool false)], none⟩,
    ⟨(some 4), .mov, [.tmp 35], none⟩] false)
  .ret)))⟩
theorem nx1Low : lowF Try.prog {} Try.f109 = some nx1Ir := by kernel_rfl
theorem nx1V : fnG Try.prog nx1Ir nx1S := by
  intro ⟨⟨_, (ms : List (Int × Lab)), (n : Int), (v : Lab)⟩, (e : Ed)⟩ hx
  obtain ⟨⟨hv, hB⟩, hc0, hc1⟩ : (getM ms n = some v ∧ Bnd (getM ms) 1000000) ∧ 0 ≤ e.cost ∧ e.cost ≤ 1000000 := hx
  show vc _ _ _ _ ⟨argEnv 0 [aD e, .bp 0 0, .bp 1 0], idxFrom 0 (nxIns ms n), 3⟩
  cases hw : getM ms e.to with
  | none =>
    have hr : nextB (getM ms) n v e = false := by unfold nextB; rw [hw]
    repeat' ((conv => whnf); first | (refine look_none rfl hw ?_) | (refine ⟨fun h => ?_, fun h => ?_⟩ <;> try (exfalso; first | omega | exact absurd h (by decide) | exact h rfl | exact absurd (show true = false from h) (by decide) | exact absurd (show false = true from h) (by decide))) | fail | fail)
    all_goals (exact ⟨[], rfl, rfl, ⟨⟨rfl, rfl⟩, ⟨rfl, rfl⟩, ⟨rfl, rfl⟩, trivial⟩, congrArg CV.bool hr.symm⟩)
  | some w =>
    obtain ⟨⟨hk0, hk1⟩, hv0, hv1⟩ := hB _ _ hw
    by_cases hn : e.fr = n
    · by_cases hq : v = plusB w e
      · have hr : nextB (getM ms) n v e = true := by unfold nextB; rw [hw]; exact decide_eq_true ⟨hn, hq⟩
        have hq1 : v.c = w.c + e.cost := by rw [hq]; rfl
        have hq2 : v.k = w.k + 1 := by rw [hq]; rfl
        repeat' ((conv => whnf); first | (refine look_some rfl hw ?_) | (refine look_some rfl hv ?_) | (refine ⟨fun h => ?_, fun h => ?_⟩ <;> try (exfalso; first | omega | exact absurd h (by decide) | exact h rfl | exact absurd ⟨hq1, hq2, trivial⟩ h)) | refine ⟨⟨by omega, by omega⟩, ?_⟩ | fail | fail)
        all_goals (exact ⟨[], rfl, rfl, ⟨⟨rfl, rfl⟩, ⟨rfl, rfl⟩, ⟨rfl, rfl⟩, trivial⟩, congrArg CV.bool hr.symm⟩)
      · have hr : nextB (getM ms) n v e = false := by unfold nextB; rw [hw]; exact decide_eq_false fun h => hq h.2
        have hq1 : ¬ (v.c = w.c + e.cost ∧ v.k = w.k + 1) := fun h => hq (by cases v; unfold plusB; simp only at h; rw [h.1, h.2])
        repeat' ((conv => whnf); first | (refine look_some rfl hw ?_) | (refine look_some rfl hv ?_) | (refine ⟨fun h => ?_, fun h => ?_⟩ <;> try (exfalso; first | omega | exact absurd h (by decide) | exact h rfl | exact hq1 ⟨h.1, h.2.1⟩)) | refine ⟨⟨by omega, by omega⟩, ?_⟩ | fail | fail)
        all_goals (exact ⟨[], rfl, rfl, ⟨⟨rfl, rfl⟩, ⟨rfl, rfl⟩, ⟨rfl, rfl⟩, trivial⟩, congrArg CV.bool hr.symm⟩)
    · have hr : nextB (getM ms) n v e = false := by unfold nextB; rw [hw]; exact decide_eq_false fun h => hn h.1
      repeat' ((conv => whnf); first | (refine look_some rfl hw ?_) | (refine ⟨fun h => ?_, fun h => ?_⟩ <;> try (exfalso; first | omega | exact absurd h (by decide) | exact h rfl | exact absurd (show true = false from h) (by decide) | exact absurd (show false = true from h) (by decide))) | fail | fail)
      all_goals (exact ⟨[], rfl, rfl, ⟨⟨rfl, rfl⟩, ⟨rfl, rfl⟩, ⟨rfl, rfl⟩, trivial⟩, congrArg CV.bool hr.symm⟩)
theorem nx1_g : HoldsG Try.prog 109 nx1S := holdsG_of mix Try.func109 nx1Low (fun _ => rfl) nx1V

/-! slices.IndexFunc[[]skiarea/api.Edge,skiarea/api.Edge] -/
def eixIr : IFn := ⟨19, [.tmp 4],
  (.seq (.ops [
    ⟨(some 4), .mov, [.const (.int .i64 0)], none⟩] false)
  (.seq (.seq (.ops [
    ⟨(some 6), .mov, [.tmp 0], none⟩,
    ⟨(some 7), .len, [.tmp 6], none⟩,
    ⟨(some 8), .mov, [.const (.int .i64 0)], none⟩] false)
  (.block 0
    (.loop
      (.seq (.ops [
        ⟨(some 9), .cmp .lss, [.tmp 8, .tmp 7], none⟩] false)
      (.seq (.cond (.tmp 9)
        .skip
        (.exit 0))
      (.seq (.block 1
        (.seq (.ops [
          ⟨(some 10), .mov, [.tmp 8], none⟩,
          ⟨(some 5), .mov, [.tmp 10], none⟩] false)
        (.seq (.ops [
          ⟨(some 11), .mov, [.tmp 1], none⟩,
          ⟨(some 12), .mov, [.tmp 0], none⟩,
          ⟨(some 13), .mov, [.tmp 5], none⟩,
          ⟨(some 14), .idx 4, [.tmp 12, .tmp 13], none⟩,
          ⟨(some 15), .load 4 true, [.tmp 14], none⟩,
          ⟨(some 16), .callvg, [.tmp 11, .tmp 15], none⟩] false)
        (.cond (.tmp 16)
          (.seq (.ops [
            ⟨(some 17), .mov, [.tmp 5], none⟩,
            ⟨(some 4), .mov, [.tmp 17], none⟩] false)
          .ret)
          .skip))))
      (.ops [
        ⟨(some 18), .bin .add .i64 false, [.tmp 8, .const (.int .i64 1)], none⟩,
        ⟨(some 8), .mov, [.tmp 18], none⟩] false)))))))
  (.seq (.ops [
    ⟨(some 4), .mov, [.const (.int .i64 (-1))], none⟩] false)
  .ret)))⟩
theorem eixLow : lowF Try.prog { gvs := [16] } Try.f108 = some eixIr := by kernel_rfl
theorem eixV : fnG Try.prog eixIr eixS := by
  intro ⟨(l : List Ed), (ms : List (Int × Lab)), (n : Int), (v : Lab)⟩ ho
  obtain ⟨⟨hv, hB⟩, hl0, hE⟩ : (getM ms n = some v ∧ Bnd (getM ms) 1000000) ∧ l.length ≤ 1000 ∧ OkE l := ho
  have hl : (l.map encD).length = l.length := List.length_map ..
  show vc _ _ _ _ ⟨argEnv 0 [L 4 (l.map encD), .fn 109 [.bp 0 0, .bp 1 0]], idxFrom 0 (nxIns ms n), 3⟩
  conv => whnf
  refine ⟨Nat, fun xq => ⟨[(0, L 4 (l.map encD)), (1, .fn 109 [.bp 0 0, .bp 1 0]), (7, I (l.map encD).length), (8, I xq)], [(0, .box [.mp 2]), (1, .box [.c (.int .i64 n)]), (2, .map 0 true (kvD ms))], 3⟩, fun xq => xq ≤ l.length ∧ ∀ y ∈ l.take xq, nextB (getM ms) n v y = false, fun xq => l.length - xq, ⟨0, ?_, [], ⟨⟨rfl, rfl⟩, ⟨⟨rfl, rfl⟩, ⟨⟨rfl, rfl⟩, ⟨⟨rfl, rfl⟩, trivial⟩⟩⟩⟩, ⟨⟨rfl, rfl, rfl⟩, ⟨⟨rfl, rfl, rfl⟩, ⟨⟨rfl, rfl, rfl⟩, trivial⟩⟩⟩, rfl, rfl, rfl⟩, ?_⟩
  · (try dsimp only); exact ⟨Nat.zero_le _, by simp⟩
  rintro k hk
  obtain ⟨hk, h0⟩ : k ≤ l.length ∧ ∀ y ∈ l.take k, nextB (getM ms) n v y = false := hk
  (try dsimp only)
  by_cases hkl : k < l.length
  · obtain ⟨e, hx⟩ := getElem_some hkl
    cases hp : nextB (getM ms) n v e with
    | true =>
      repeat' ((conv => whnf); first | (refine ⟨fun h => ?_, fun h => ?_⟩ <;> try (exfalso; first | omega | exact absurd h (by decide) | exact h rfl | exact absurd (show true = false from h) (by decide) | exact absurd (show false = true from h) (by decide))) | (refine ⟨by omega, fun r hrr => ?_⟩; first | ((have hre : r = encD e := by (first | exact get_row hrr hx | fail)); subst hre)) | (refine And.intro (by with_reducible exact nx1_call) ?_; refine ⟨[0, 1, 2], _, nx1_g, (⟨l, ms, n, v⟩, e), ⟨⟨hv, hB⟩, hE e (List.mem_of_getElem? hx)⟩, ⟨⟨⟨rfl, rfl, rfl⟩, ⟨rfl, rfl, rfl⟩, ⟨rfl, rfl, rfl⟩, trivial⟩, rfl, rfl, rfl⟩, ⟨(by show leV (.agg ((encD e).map .c)) (.agg ((encD e).map .c)); exact leV_refl _), ⟨rfl, rfl⟩, ⟨rfl, rfl⟩, trivial⟩, .inl rfl, ⟨⟨trivial, trivial, trivial, trivial⟩, trivial⟩, ?_⟩; show norm (B (nextB (getM ms) n v e)) _; rw [hp]) | fail | fail)
      exact ⟨[], rfl, rfl, ⟨⟨rfl, rfl⟩, ⟨rfl, rfl⟩, ⟨rfl, rfl⟩, trivial⟩, congrArg (CV.int .i64) (ix_hit hx h0 hp).symm⟩
    | false =>
      repeat' ((conv => whnf); first | (refine ⟨fun h => ?_, fun h => ?_⟩ <;> try (exfalso; first | omega | exact absurd h (by decide) | exact h rfl | exact absurd (show true = false from h) (by decide) | exact absurd (show false = true from h) (by decide))) | (refine ⟨by omega, fun r hrr => ?_⟩; first | ((have hre : r = encD e := by (first | exact get_row hrr hx | fail)); subst hre)) | (refine And.intro (by with_reducible exact nx1_call) ?_; refine ⟨[0, 1, 2], _, nx1_g, (⟨l, ms, n, v⟩, e), ⟨⟨hv, hB⟩, hE e (List.mem_of_getElem? hx)⟩, ⟨⟨⟨rfl, rfl, rfl⟩, ⟨rfl, rfl, rfl⟩, ⟨rfl, rfl, rfl⟩, trivial⟩, rfl, rfl, rfl⟩, ⟨(by show leV (.agg ((encD e).map .c)) (.agg ((encD e).map .c)); exact leV_refl _), ⟨rfl, rfl⟩, ⟨rfl, rfl⟩, trivial⟩, .inl rfl, ⟨⟨trivial, trivial, trivial, trivial⟩, trivial⟩, ?_⟩; show norm (B (nextB (getM ms) n v e)) _; rw [hp]) | (refine ⟨k + 1, ⟨?_, by (try dsimp only); omega⟩, [], ⟨⟨rfl, rfl⟩, ⟨⟨rfl, rfl⟩, ⟨⟨rfl, rfl⟩, ⟨⟨rfl, rfl⟩, trivial⟩⟩⟩⟩, ⟨⟨rfl, rfl, rfl⟩, ⟨⟨rfl, rfl, rfl⟩, ⟨⟨rfl, rfl, rfl⟩, trivial⟩⟩⟩, rfl, rfl, rfl⟩; (try dsimp only); exact ⟨by omega, first_step hx h0 hp⟩) | refine ⟨⟨by omega, by omega⟩, ?_⟩ | fail)
  · rw [take_end hkl] at h0
    repeat' ((conv => whnf); first | (refine ⟨fun h => ?_, fun h => ?_⟩ <;> try (exfalso; first | omega | exact absurd h (by decide) | exact h rfl | exact absurd (show true = false from h) (by decide) | exact absurd (show false = true from h) (by decide))) | fail | fail)
    exact ⟨[], rfl, rfl, ⟨⟨rfl, rfl⟩, ⟨rfl, rfl⟩, ⟨rfl, rfl⟩, trivial⟩, congrArg (CV.int .i64) (ix_none h0).symm⟩
theorem eix_g : HoldsG Try.prog 108 eixS := holdsG_of mix Try.func108 eixLow (fun _ => rfl) eixV

end Go.Proofs.Ytoeichkblclfaaa
