/- Surfaces: the walks. -/
import Derived.Test.YtgjcoebfiangcaaY1
import Derived.Test.YtgjcoebfiangcaaChecked
namespace Go.Proofs.Ytgjcoebfiangcaa
open Go.RowKit
theorem mix : Try.prog.follows .mixedOrders = true := by kernel_rfl

/-! skiarea/surface.find$1 -/
def isrunIr : IFn := ⟨8, [.tmp 3],
  (.seq (.ops [
    ⟨(some 2), .box, [.tmp 0], none⟩,
    ⟨(some 3), .mov, [.const (.bool false)], none⟩] false)
  (.seq (.ops [
    ⟨(some 4), .faddr 0, [.tmp 2], none⟩,
    ⟨(some 5), .load 1 false, [.tmp 4], none⟩,
    ⟨(some 6), .load 1 false, [.tmp 1], none⟩,
    ⟨(some 7), .cmp .eql, [.tmp 5, .tmp 6], none⟩,
    ⟨(some 3), .mov, [.tmp 7], none⟩] false)
  .ret))⟩
theorem isrunLow : lowF Try.prog {} Try.f35 = some isrunIr := by kernel_rfl
def isrunS : Spec := spec (Sf × Int) (fun p => [aS p.1, .rp [.int .i64 p.2]]) (fun _ => True) (fun p => B (runB p.2 p.1))
theorem isrunV : fnV Try.prog isrunIr isrunS := by
  intro ⟨(x : Sf), (n : Int)⟩ _
  show vc _ _ _ _ ⟨argEnv 0 [aS x, .rp [.int .i64 n]], [], 0⟩
  repeat' ((conv => whnf); first | (refine ⟨fun h => ?_, fun h => ?_⟩ <;> try (exfalso; first | omega | exact absurd h (by decide) | exact h rfl)) | refine ⟨[], rfl, trivial, congrArg CV.bool ?_⟩ | fail)
  all_goals first | exact (decide_eq_true (show x.run = n by omega)).symm | exact (decide_eq_false (show ¬ (x.run = n) by omega)).symm
theorem isrun_h : Holds Try.prog 35 isrunS := holds_of mix Try.func35 isrunLow (fun _ => rfl) isrunV
theorem isrun_c : callable Try.prog 35 = true := by kernel_rfl

/-! slices.IndexFunc[[]skiarea/api.Surface,skiarea/api.Surface] -/
def indexFIr : IFn := ⟨19, [.tmp 4],
  (.seq (.ops [
    ⟨(some 4), .mov, [.const (.int .i64 0)], none⟩] false)
  (.seq (.seq (.ops [
    ⟨(some 6), .mov, [.tmp 0], none⟩,
    ⟨(some 7), .len, [.tmp 6], none⟩,
    ⟨(some 8), .mov, [.const (.int .i64 0)], none⟩] false)
  (.block 0
    (.loop
      (.seq (.ops [
        ⟨(some 9), .cmp .lss, [.tmp 8, .tmp 7], none⟩] false)
      (.seq (.cond (.tmp 9)
        .skip
        (.exit 0))
      (.seq (.block 1
        (.seq (.ops [
          ⟨(some 10), .mov, [.tmp 8], none⟩,
          ⟨(some 5), .mov, [.tmp 10], none⟩] false)
        (.seq (.ops [
          ⟨(some 11), .mov, [.tmp 1], none⟩,
          ⟨(some 12), .mov, [.tmp 0], none⟩,
          ⟨(some 13), .mov, [.tmp 5], none⟩,
          ⟨(some 14), .idx 3, [.tmp 12, .tmp 13], none⟩,
          ⟨(some 15), .load 3 true, [.tmp 14], none⟩,
          ⟨(some 16), .callv, [.tmp 11, .tmp 15], none⟩] false)
        (.cond (.tmp 16)
          (.seq (.ops [
            ⟨(some 17), .mov, [.tmp 5], none⟩,
            ⟨(some 4), .mov, [.tmp 17], none⟩] false)
          .ret)
          .skip))))
      (.ops [
        ⟨(some 18), .bin .add .i64 false, [.tmp 8, .const (.int .i64 1)], none⟩,
        ⟨(some 8), .mov, [.tmp 18], none⟩] false)))))))
  (.seq (.ops [
    ⟨(some 4), .mov, [.const (.int .i64 (-1))], none⟩] false)
  .ret)))⟩
theorem indexFLow : lowF Try.prog {} Try.f34 = some indexFIr := by kernel_rfl
def indexFS : Spec := spec (List Sf × Int) (fun p => [L 3 (p.1.map encS), .fn 35 [.rp [.int .i64 p.2]]]) (fun p => p.1.length ≤ 9223372036854775807) (fun p => I (ixF (runB p.2) p.1))
theorem indexFV : fnV Try.prog indexFIr indexFS := by
  intro ⟨(l : List Sf), (n : Int)⟩ hl0
  replace hl0 : l.length ≤ 9223372036854775807 := hl0
  have hl : (l.map encS).length = l.length := List.length_map ..
  show vc _ _ _ _ ⟨argEnv 0 [L 3 (l.map encS), .fn 35 [.rp [.int .i64 n]]], [], 0⟩
  conv => whnf
  refine ⟨Nat, fun xq => ⟨[(0, L 3 (l.map encS)), (1, .fn 35 [.rp [.int .i64 n]]), (7, I (l.map encS).length), (8, I xq)], [], 0⟩, fun xq => xq ≤ l.length ∧ ∀ y ∈ l.take xq, runB n y = false, fun xq => l.length - xq, ⟨0, ?_, [], ⟨⟨rfl, rfl⟩, ⟨⟨rfl, rfl⟩, ⟨⟨rfl, rfl⟩, ⟨⟨rfl, rfl⟩, trivial⟩⟩⟩⟩, trivial, rfl, rfl, rfl⟩, ?_⟩
  · (try dsimp only); exact ⟨Nat.zero_le _, by simp⟩
  rintro k hk
  obtain ⟨hk, h0⟩ : k ≤ l.length ∧ ∀ y ∈ l.take k, runB n y = false := hk
  (try dsimp only)
  by_cases hkl : k < l.length
  · obtain ⟨x, hx⟩ := getElem_some hkl
    cases hp : runB n x with
    | true =>
      repeat' ((conv => whnf); first | (refine ⟨fun h => ?_, fun h => ?_⟩ <;> try (exfalso; first | omega | exact absurd h (by decide) | exact h rfl)) | (refine ⟨by omega, fun r hrr => ?_⟩; first | ((have hre : r = encS x := by (first | exact get_row hrr hx | fail)); subst hre)) | (refine And.intro (by with_reducible exact isrun_c) ?_; refine ⟨_, isrun_h, (x, n), trivial, leVs_of_eq rfl, .inl rfl, rfl, ?_⟩; show norm (B (runB n x)) _; rw [hp]) | fail | fail)
      all_goals (refine ⟨[], rfl, trivial, congrArg (CV.int .i64) ?_⟩; exact (ix_hit hx h0 hp).symm)
    | false =>
      repeat' ((conv => whnf); first | (refine ⟨fun h => ?_, fun h => ?_⟩ <;> try (exfalso; first | omega | exact absurd h (by decide) | exact h rfl)) | (refine ⟨by omega, fun r hrr => ?_⟩; first | ((have hre : r = encS x := by (first | exact get_row hrr hx | fail)); subst hre)) | (refine And.intro (by with_reducible exact isrun_c) ?_; refine ⟨_, isrun_h, (x, n), trivial, leVs_of_eq rfl, .inl rfl, rfl, ?_⟩; show norm (B (runB n x)) _; rw [hp]) | (refine ⟨k + 1, ⟨?_, by (try dsimp only); omega⟩, [], ⟨⟨rfl, rfl⟩, ⟨⟨rfl, rfl⟩, ⟨⟨rfl, rfl⟩, ⟨⟨rfl, rfl⟩, trivial⟩⟩⟩⟩, trivial, rfl, rfl, rfl⟩; (try dsimp only); exact ⟨by omega, first_step hx h0 hp⟩) | refine ⟨⟨by omega, by omega⟩, ?_⟩ | fail)
  · rw [take_end hkl] at h0
    repeat' ((conv => whnf); first | (refine ⟨fun h => ?_, fun h => ?_⟩ <;> try (exfalso; first | omega | exact absurd h (by decide) | exact h rfl)) | fail | fail)
    all_goals (refine ⟨[], rfl, trivial, congrArg (CV.int .i64) ?_⟩; exact (ix_none h0).symm)
theorem indexF_h : Holds Try.prog 34 indexFS := holds_of mix Try.func34 indexFLow (fun _ => rfl) indexFV

/-! skiarea/surface.find -/
def findIr : IFn := ⟨8, [.tmp 4],
  (.seq (.ops [
    ⟨(some 3), .box, [.tmp 1], none⟩,
    ⟨(some 4), .mov, [.const (.int .i64 0)], none⟩] false)
  (.seq (.ops [
    ⟨(some 5), .mov, [.tmp 0], none⟩,
    ⟨(some 6), .fn 35, [.tmp 3], none⟩,
    ⟨(some 7), .call 34, [.tmp 5, .tmp 6], none⟩,
    ⟨(some 4), .mov, [.tmp 7], none⟩] false)
  .ret))⟩
theorem findLow : lowF Try.prog {} Try.f24 = some findIr := by kernel_rfl
def findS : Spec := spec (List Sf × Int) (fun p => [L 3 (p.1.map encS), I p.2]) (fun p => p.1.length ≤ 9223372036854775807) (fun p => I (ixF (runB p.2) p.1))
theorem findV : fnV Try.prog findIr findS := by
  intro ⟨(l : List Sf), (n : Int)⟩ hx
  show vc _ _ _ _ ⟨argEnv 0 [L 3 (l.map encS), I n], [], 0⟩
  repeat' ((conv => whnf); first | (refine ⟨fun h => ?_, fun h => ?_⟩ <;> try (exfalso; first | omega | exact absurd h (by decide) | exact h rfl)) | (refine ⟨_, indexF_h, (l, n), hx, leVs_of_eq rfl, .inr rfl, rfl, ?_⟩; show norm (I (ixF (runB n) l)) _) | fail | fail)
  all_goals (refine ⟨[], rfl, trivial, congrArg (CV.int .i64) ?_⟩; exact (rfl).symm)
theorem find_h : Holds Try.prog 24 findS := holds_of mix Try.func24 findLow (fun _ => rfl) findV

/-! slices.Clone[[]skiarea/api.Surface,skiarea/api.Surface] -/
def cloneIr : IFn := ⟨8, [.tmp 2],
  (.seq (.ops [
    ⟨(some 2), .nilOwn 32 3, [], none⟩] false)
  (.seq (.seq (.ops [
    ⟨(some 3), .mov, [.tmp 0], none⟩,
    ⟨(some 4), .isnil false, [.tmp 3], none⟩] false)
  (.cond (.tmp 4)
    (.seq (.ops [
      ⟨(some 2), .nilOwn 32 3, [], none⟩] false)
    .ret)
    .skip))
  (.seq (.ops [
    ⟨(some 5), .buildOwn 32 3, [], none⟩,
    ⟨(some 6), .mov, [.tmp 0], none⟩,
    ⟨(some 7), .append 32 3 24, [.tmp 5, .tmp 6], none⟩,
    ⟨(some 2), .mov, [.tmp 7], none⟩] false)
  .ret)))⟩
theorem cloneLow : lowF Try.prog { owns := [(2, 32), (5, 32)] } Try.f25 = some cloneIr := by kernel_rfl
def cloneS : Spec := ⟨List Sf, fun l => [L 3 (l.map encS)], fun l => l.length ≤ 1000000, fun _ => .osl 0, fun l => [.row 32 3 (l.map encS)]⟩
theorem cloneV : fnV Try.prog cloneIr cloneS := by
  intro (xs : List Sf) (hx : xs.length ≤ 1000000)
  have hl : (xs.map encS).length = xs.length := List.length_map ..
  conv => whnf
  refine ⟨fun h => ?_, ?_⟩
  · conv => whnf
    refine ⟨[1], rfl, ⟨⟨?_, _, _, _, rfl⟩, trivial⟩, ?_⟩
    · show some (Ob.row 32 3 []) = some (Ob.row 32 3 (xs.map encS))
      rw [h]
    · rfl
  · conv => whnf
    refine ⟨⟨by simp; omega, by simp; omega⟩, ?_⟩
    conv => whnf
    exact ⟨[2], rfl, ⟨⟨rfl, _, _, _, rfl⟩, trivial⟩, rfl⟩
theorem clone_h : Holds Try.prog 25 cloneS := holds_of mix Try.func25 cloneLow (fun _ => rfl) cloneV
abbrev resS (r : List Sf × Int) : SV := .tup [L 3 (r.1.map encS), I r.2]

/-! skiarea/surface.Groom -/
def groIr : IFn := ⟨42, [.tmp 6, .tmp 7],
  (.seq (.ops [
    ⟨(some 6), .mov, [.const (.slice none 0 0)], none⟩,
    ⟨(some 7), .mov, [.const (.int .i64 0)], none⟩] false)
  (.seq (.ops [
    ⟨(some 10), .mov, [.tmp 0], none⟩,
    ⟨(some 11), .mov, [.tmp 1], none⟩,
    ⟨(some 12), .call 24, [.tmp 10, .tmp 11], none⟩,
    ⟨(some 8), .mov, [.tmp 12], none⟩] false)
  (.seq (.seq (.ops [
    ⟨(some 13), .mov, [.tmp 8], none⟩,
    ⟨(some 14), .cmp .lss, [.tmp 13, .const (.int .i64 0)], none⟩] false)
  (.cond (.tmp 14)
    (.seq (.ops [
      ⟨(some 6), .mov, [.const (.slice none 0 0)], none⟩,
      ⟨(some 7), .mov, [.const (.int .i64 8)], none⟩] false)
    .ret)
    .skip))
  (.seq (.seq (.ops [
    ⟨(some 15), .mov, [.tmp 2], none⟩,
    ⟨(some 16), .mov, [.tmp 0], none⟩,
    ⟨(some 17), .mov, [.tmp 8], none⟩,
    ⟨(some 18), .idx 3, [.tmp 16, .tmp 17], none⟩,
    ⟨(some 19), .faddr 1, [.tmp 18], none⟩,
    ⟨(some 20), .load 1 false, [.tmp 19], none⟩,
    ⟨(some 21), .cmp .lss, [.tmp 15, .tmp 20], none⟩,
    ⟨(some 22), .mov, [.tmp 21], none⟩,
    ⟨(some 23), .mov, [.tmp 2], (some (22, false))⟩,
    ⟨(some 24), .cmp .gtr, [.tmp 23, .const (.int .i64 20000000)], (some (22, false))⟩,
    ⟨(some 25), .pick, [.tmp 22, .const (.bool true), .tmp 24], none⟩,
    ⟨(some 26), .mov, [.tmp 25], none⟩,
    ⟨(some 27), .mov, [.tmp 2], (some (26, false))⟩,
    ⟨(some 28), .cmp .lss, [.tmp 27, .const (.int .i64 0)], (some (26, false))⟩,
    ⟨(some 29), .pick, [.tmp 26, .const (.bool true), .tmp 28], none⟩] false)
  (.cond (.tmp 29)
    (.seq (.ops [
      ⟨(some 6), .mov, [.const (.slice none 0 0)], none⟩,
      ⟨(some 7), .mov, [.const (.int .i64 11)], none⟩] false)
    .ret)
    .skip))
  (.seq (.ops [
    ⟨(some 30), .mov, [.tmp 0], none⟩,
    ⟨(some 31), .callo 25, [.tmp 30], none⟩,
    ⟨(some 9), .mov, [.tmp 31], none⟩] false)
  (.seq (.ops [
    ⟨(some 32), .mov, [.tmp 9], none⟩,
    ⟨(some 33), .mov, [.tmp 8], none⟩,
    ⟨(some 34), .mov, [.tmp 9], none⟩,
    ⟨(some 35), .mov, [.tmp 8], none⟩,
    ⟨(some 36), .mov, [.tmp 2], none⟩,
    ⟨(some 37), .idx 3, [.tmp 32, .tmp 33], none⟩,
    ⟨(some 38), .faddr 1, [.tmp 37], none⟩,
    ⟨none, .store 1, [.tmp 38, .tmp 36], none⟩,
    ⟨(some 39), .idx 3, [.tmp 34, .tmp 35], none⟩,
    ⟨(some 40), .faddr 2, [.tmp 39], none⟩,
    ⟨none, .store 1, [.tmp 40, .const (.int .i64 0)], none⟩] false)
  (.seq (.ops [
    ⟨(some 41), .mov, [.tmp 9], none⟩,
    ⟨(some 6), .mov, [.tmp 41], none⟩,
    ⟨(some 7), .mov, [.const (.int .i64 0)], none⟩] false)
  .ret)))))))⟩
theorem groLow : lowF Try.prog { gives := [31] } Try.f14 = some groIr := by kernel_rfl
def groS : Spec := spec (List Sf × Int × Int) (fun p => [L 3 (p.1.map encS), I p.2.1, I p.2.2]) (fun p => p.1.length ≤ 64) (fun p => resS (onS (groomS p.2.2) p.1 p.2.1))
set_option maxHeartbeats 1000000 in
theorem groV : fnV Try.prog groIr groS := by
  intro ⟨(l : List Sf), (run : Int), (t : Int)⟩ hl64
  replace hl64 : l.length ≤ 64 := hl64
  have hx : l.length ≤ 9223372036854775807 := by omega
  have hl : (l.map encS).length = l.length := List.length_map ..
  show vc _ _ _ _ ⟨argEnv 0 [L 3 (l.map encS), I run, I t], [], 0⟩
  rcases ix_cases (runB run) l with ⟨hix, _⟩ | ⟨k, x, hix, hx2, _⟩
  · have hR := on_no (g := groomS t) hix
    repeat' ((conv => whnf); first | (refine ⟨fun h => ?_, fun h => ?_⟩ <;> try (exfalso; first | omega | exact absurd h (by decide) | exact h rfl)) | (refine ⟨_, find_h, (l, run), hx, leVs_of_eq rfl, .inl rfl, rfl, ?_⟩; show norm (I (ixF (runB run) l)) _; rw [hix]) | fail | fail)
    refine ⟨[], rfl, trivial, ?_⟩
    show leR _ (resS (onS (groomS t) l run))
    rw [hR]
    exact ⟨rfl, rfl, trivial⟩
  · have hkl := (List.getElem?_eq_some_iff.1 hx2).1
    have hR := on_at (g := groomS t) hix hx2
    by_cases hc : t < x.gr ∨ 20000000 < t ∨ t < 0
    · have hg : groomS t x = (sf0, 11) := if_pos hc
      rw [hg, if_pos (by decide)] at hR
      repeat' ((conv => whnf); first | (refine ⟨fun h => ?_, fun h => ?_⟩ <;> try (exfalso; first | omega | exact absurd h (by decide) | exact h rfl)) | (refine ⟨by omega, fun r hrr => ?_⟩; first | ((have hre : r = encS x := by (first | exact get_row hrr hx2 | fail)); subst hre)) | (refine ⟨_, find_h, (l, run), hx, leVs_of_eq rfl, .inl rfl, rfl, ?_⟩; show norm (I (ixF (runB run) l)) _; rw [hix]) | fail | fail)
      all_goals (refine ⟨[], rfl, trivial, ?_⟩; show leR _ (resS (onS (groomS t) l run)); rw [hR]; exact ⟨rfl, rfl, trivial⟩)
    · have hg : groomS t x = (⟨x.run, t, 0⟩, 0) := if_neg hc
      rw [hg, if_neg (fun h => h rfl)] at hR
      have hget : (l.map encS)[(k : Int).toNat]? = some (encS x) := by rw [Int.toNat_natCast, List.getElem?_map, hx2]; rfl
      have hget2 : ((l.map encS).set (k : Int).toNat [CV.int .i64 x.run, .int .i64 t, .int .i64 x.tr])[(k : Int).toNat]? = some [CV.int .i64 x.run, .int .i64 t, .int .i64 x.tr] := List.getElem?_set_self (by omega)
      repeat' ((conv => whnf); first | (refine ⟨fun h => ?_, fun h => ?_⟩ <;> try (exfalso; first | omega | exact absurd h (by decide) | exact h rfl)) | (refine ⟨by omega, fun r hrr => ?_⟩; first | ((have hre : r = encS x := by (first | exact get_row hrr hx2 | fail)); subst hre)) | (refine ⟨_, find_h, (l, run), hx, leVs_of_eq rfl, .inl rfl, rfl, ?_⟩; show norm (I (ixF (runB run) l)) _; rw [hix]) | (refine ⟨rfl, _, clone_h, l, (by show l.length ≤ 1000000; omega), leVs_of_eq rfl, trivial, ?_⟩; show norm (.osl 0) _) | refine get_at hget ?_ | refine get_at hget2 ?_ | (refine And.intro (And.intro (by omega) (by first | omega | (rw [List.length_set]; omega))) ?_) | (refine And.intro (And.intro (by omega) (by omega)) ?_) | fail | fail)
      refine ⟨[], rfl, trivial, ?_⟩
      show leR _ (resS (onS (groomS t) l run))
      rw [hR]
      refine ⟨?_, rfl, trivial⟩
      show leV (.c (.sl 3 _)) (L 3 ((l.set k ⟨x.run, t, 0⟩).map encS))
      rw [List.map_set]
      simp only [Int.toNat_natCast, List.set_set]
      exact leV_refl _
theorem gro_h : Holds Try.prog 14 groS := holds_of mix Try.func14 groLow (fun _ => rfl) groV

/-! skiarea/surface.Descend -/
def desIr : IFn := ⟨36, [.tmp 6, .tmp 7],
  (.seq (.ops [
    ⟨(some 6), .mov, [.const (.slice none 0 0)], none⟩,
    ⟨(some 7), .mov, [.const (.int .i64 0)], none⟩] false)
  (.seq (.ops [
    ⟨(some 10), .mov, [.tmp 0], none⟩,
    ⟨(some 11), .mov, [.tmp 1], none⟩,
    ⟨(some 12), .call 24, [.tmp 10, .tmp 11], none⟩,
    ⟨(some 8), .mov, [.tmp 12], none⟩] false)
  (.seq (.seq (.ops [
    ⟨(some 13), .mov, [.tmp 8], none⟩,
    ⟨(some 14), .cmp .lss, [.tmp 13, .const (.int .i64 0)], none⟩] false)
  (.cond (.tmp 14)
    (.seq (.ops [
      ⟨(some 6), .mov, [.const (.slice none 0 0)], none⟩,
      ⟨(some 7), .mov, [.const (.int .i64 8)], none⟩] false)
    .ret)
    .skip))
  (.seq (.seq (.ops [
    ⟨(some 15), .mov, [.tmp 2], none⟩,
    ⟨(some 16), .cmp .lss, [.tmp 15, .const (.int .i64 0)], none⟩,
    ⟨(some 17), .mov, [.tmp 16], none⟩,
    ⟨(some 18), .mov, [.tmp 2], (some (17, false))⟩,
    ⟨(some 19), .cmp .gtr, [.tmp 18, .const (.int .i64 10000)], (some (17, false))⟩,
    ⟨(some 20), .pick, [.tmp 17, .const (.bool true), .tmp 19], none⟩] false)
  (.cond (.tmp 20)
    (.seq (.ops [
      ⟨(some 6), .mov, [.const (.slice none 0 0)], none⟩,
      ⟨(some 7), .mov, [.const (.int .i64 2)], none⟩] false)
    .ret)
    .skip))
  (.seq (.ops [
    ⟨(some 21), .mov, [.tmp 0], none⟩,
    ⟨(some 22), .callo 25, [.tmp 21], none⟩,
    ⟨(some 9), .mov, [.tmp 22], none⟩] false)
  (.seq (.ops [
    ⟨(some 23), .mov, [.tmp 9], none⟩,
    ⟨(some 24), .mov, [.tmp 8], none⟩,
    ⟨(some 25), .mov, [.tmp 9], none⟩,
    ⟨(some 26), .mov, [.tmp 8], none⟩,
    ⟨(some 27), .idx 3, [.tmp 25, .tmp 26], none⟩,
    ⟨(some 28), .faddr 2, [.tmp 27], none⟩,
    ⟨(some 29), .load 1 false, [.tmp 28], none⟩,
    ⟨(some 30), .mov, [.tmp 2], none⟩,
    ⟨(some 31), .bin .add .i64 false, [.tmp 29, .tmp 30], none⟩,
    ⟨(some 32), .min, [.tmp 31, .const (.int .i64 1000000)], none⟩,
    ⟨(some 33), .idx 3, [.tmp 23, .tmp 24], none⟩,
    ⟨(some 34), .faddr 2, [.tmp 33], none⟩,
    ⟨none, .store 1, [.tmp 34, .tmp 32], none⟩] false)
  (.seq (.ops [
    ⟨(some 35), .mov, [.tmp 9], none⟩,
    ⟨(some 6), .mov, [.tmp 35], none⟩,
    ⟨(some 7), .mov, [.const (.int .i64 0)], none⟩] false)
  .ret)))))))⟩
theorem desLow : lowF Try.prog { gives := [22] } Try.f17 = some desIr := by kernel_rfl
def desS : Spec := spec (List Sf × Int × Int) (fun p => [L 3 (p.1.map encS), I p.2.1, I p.2.2]) (fun p => p.1.length ≤ 64 ∧ ∀ y ∈ p.1, 0 ≤ y.tr ∧ y.tr ≤ 1000000) (fun p => resS (onS (descS p.2.2) p.1 p.2.1))
set_option maxHeartbeats 1000000 in
theorem desV : fnV Try.prog desIr desS := by
  intro ⟨(l : List Sf), (run : Int), (n : Int)⟩ hl64
  obtain ⟨hl64, htr⟩ : l.length ≤ 64 ∧ ∀ y ∈ l, 0 ≤ y.tr ∧ y.tr ≤ 1000000 := hl64
  have hx : l.length ≤ 9223372036854775807 := by omega
  have hl : (l.map encS).length = l.length := List.length_map ..
  show vc _ _ _ _ ⟨argEnv 0 [L 3 (l.map encS), I run, I n], [], 0⟩
  rcases ix_cases (runB run) l with ⟨hix, _⟩ | ⟨k, x, hix, hx2, _⟩
  · have hR := on_no (g := descS n) hix
    repeat' ((conv => whnf); first | (refine ⟨fun h => ?_, fun h => ?_⟩ <;> try (exfalso; first | omega | exact absurd h (by decide) | exact h rfl)) | (refine ⟨_, find_h, (l, run), hx, leVs_of_eq rfl, .inl rfl, rfl, ?_⟩; show norm (I (ixF (runB run) l)) _; rw [hix]) | fail | fail)
    refine ⟨[], rfl, trivial, ?_⟩
    show leR _ (resS (onS (descS n) l run))
    rw [hR]
    exact ⟨rfl, rfl, trivial⟩
  · have hkl := (List.getElem?_eq_some_iff.1 hx2).1
    obtain ⟨ht0, ht1⟩ := htr x (List.mem_of_getElem? hx2)
    have hR := on_at (g := descS n) hix hx2
    by_cases hc : n < 0 ∨ 10000 < n
    · have hg : descS n x = (sf0, 2) := if_pos hc
      rw [hg, if_pos (by decide)] at hR
      repeat' ((conv => whnf); first | (refine ⟨fun h => ?_, fun h => ?_⟩ <;> try (exfalso; first | omega | exact absurd h (by decide) | exact h rfl)) | (refine ⟨by omega, fun r hrr => ?_⟩; first | ((have hre : r = encS x := by (first | exact get_row hrr hx2 | fail)); subst hre)) | (refine ⟨_, find_h, (l, run), hx, leVs_of_eq rfl, .inl rfl, rfl, ?_⟩; show norm (I (ixF (runB run) l)) _; rw [hix]) | fail | fail)
      all_goals (refine ⟨[], rfl, trivial, ?_⟩; show leR _ (resS (onS (descS n) l run)); rw [hR]; exact ⟨rfl, rfl, trivial⟩)
    · have hg : descS n x = (⟨x.run, x.gr, min (x.tr + n) 1000000⟩, 0) := if_neg hc
      rw [hg, if_neg (fun h => h rfl)] at hR
      have hget : (l.map encS)[(k : Int).toNat]? = some (encS x) := by rw [Int.toNat_natCast, List.getElem?_map, hx2]; rfl
      have hget2 : ((l.map encS).set (k : Int).toNat [CV.int .i64 x.run, .int .i64 x.gr, .int .i64 x.tr])[(k : Int).toNat]? = some [CV.int .i64 x.run, .int .i64 x.gr, .int .i64 x.tr] := List.getElem?_set_self (by omega)
      repeat' ((conv => whnf); first | (refine ⟨fun h => ?_, fun h => ?_⟩ <;> try (exfalso; first | omega | exact absurd h (by decide) | exact h rfl)) | (refine ⟨by omega, fun r hrr => ?_⟩; first | ((have hre : r = encS x := by (first | exact get_row hrr hx2 | fail)); subst hre)) | (refine ⟨_, find_h, (l, run), hx, leVs_of_eq rfl, .inl rfl, rfl, ?_⟩; show norm (I (ixF (runB run) l)) _; rw [hix]) | (refine ⟨rfl, _, clone_h, l, (by show l.length ≤ 1000000; omega), leVs_of_eq rfl, trivial, ?_⟩; show norm (.osl 0) _) | refine get_at hget ?_ | refine get_at hget2 ?_ | (refine And.intro (And.intro (by omega) (by first | omega | (rw [List.length_set]; omega))) ?_) | (refine And.intro (And.intro (by omega) (by omega)) ?_) | fail | fail)
      refine ⟨[], rfl, trivial, ?_⟩
      show leR _ (resS (onS (descS n) l run))
      rw [hR]
      refine ⟨?_, rfl, trivial⟩
      show leV (.c (.sl 3 _)) (L 3 ((l.set k ⟨x.run, x.gr, min (x.tr + n) 1000000⟩).map encS))
      rw [List.map_set]
      simp only [Int.toNat_natCast]
      exact leV_refl _
theorem des_h : Holds Try.prog 17 desS := holds_of mix Try.func17 desLow (fun _ => rfl) desV

/-! skiarea/surface.Right -/
def rgtIr : IFn := ⟨57, [.tmp 2],
  (.seq (.ops [
    ⟨(some 2), .mov, [.const (.int .i64 0)], none⟩] false)
  (.seq (.seq (.ops [
    ⟨(some 5), .mov, [.tmp 0], none⟩,
    ⟨(some 6), .len, [.tmp 5], none⟩,
    ⟨(some 7), .cmp .gtr, [.tmp 6, .const (.int .i64 64)], none⟩] false)
  (.cond (.tmp 7)
    (.seq (.ops [
      ⟨(some 2), .mov, [.const (.int .i64 4)], none⟩] false)
    .ret)
    .skip))
  (.seq (.seq (.ops [
    ⟨(some 8), .mov, [.tmp 0], none⟩,
    ⟨(some 9), .len, [.tmp 8], none⟩,
    ⟨(some 10), .mov, [.const (.int .i64 0)], none⟩] false)
  (.block 0
    (.loop
      (.seq (.ops [
        ⟨(some 11), .cmp .lss, [.tmp 10, .tmp 9], none⟩] false)
      (.seq (.cond (.tmp 11)
        .skip
        (.exit 0))
      (.seq (.block 1
        (.seq (.ops [
          ⟨(some 12), .mov, [.tmp 10], none⟩,
          ⟨(some 13), .idx 3, [.tmp 8, .tmp 10], none⟩,
          ⟨(some 14), .load 3 true, [.tmp 13], none⟩,
          ⟨(some 4), .alloc [.int .i64 0, .int .i64 0, .int .i64 0], [], none⟩,
          ⟨(some 3), .mov, [.tmp 12], none⟩,
          ⟨none, .store 3, [.tmp 4, .tmp 14], none⟩] false)
        (.seq (.seq (.ops [
          ⟨(some 15), .faddr 0, [.tmp 4], none⟩,
          ⟨(some 16), .load 1 false, [.tmp 15], none⟩,
          ⟨(some 17), .cmp .lss, [.tmp 16, .const (.int .i64 1)], none⟩,
          ⟨(some 18), .mov, [.tmp 17], none⟩,
          ⟨(some 19), .faddr 0, [.tmp 4], (some (18, false))⟩,
          ⟨(some 20), .load 1 false, [.tmp 19], (some (18, false))⟩,
          ⟨(some 21), .cmp .gtr, [.tmp 20, .const (.int .i64 9999)], (some (18, false))⟩,
          ⟨(some 22), .pick, [.tmp 18, .const (.bool true), .tmp 21], none⟩,
          ⟨(some 23), .mov, [.tmp 22], none⟩,
          ⟨(some 24), .faddr 1, [.tmp 4], (some (23, false))⟩,
          ⟨(some 25), .load 1 false, [.tmp 24], (some (23, false))⟩,
          ⟨(some 26), .cmp .lss, [.tmp 25, .const (.int .i64 (-1))], (some (23, false))⟩,
          ⟨(some 27), .pick, [.tmp 23, .const (.bool true), .tmp 26], none⟩,
          ⟨(some 28), .mov, [.tmp 27], none⟩,
          ⟨(some 29), .faddr 1, [.tmp 4], (some (28, false))⟩,
          ⟨(some 30), .load 1 false, [.tmp 29], (some (28, false))⟩,
          ⟨(some 31), .cmp .gtr, [.tmp 30, .const (.int .i64 20000000)], (some (28, false))⟩,
          ⟨(some 32), .pick, [.tmp 28, .const (.bool true), .tmp 31], none⟩,
          ⟨(some 33), .mov, [.tmp 32], none⟩,
          ⟨(some 34), .faddr 2, [.tmp 4], (some (33, false))⟩,
          ⟨(some 35), .load 1 false, [.tmp 34], (some (33, false))⟩,
          ⟨(some 36), .cmp .lss, [.tmp 35, .const (.int .i64 0)], (some (33, false))⟩,
          ⟨(some 37), .pick, [.tmp 33, .const (.bool true), .tmp 36], none⟩,
          ⟨(some 38), .mov, [.tmp 37], none⟩,
          ⟨(some 39), .faddr 2, [.tmp 4], (some (38, false))⟩,
          ⟨(some 40), .load 1 false, [.tmp 39], (some (38, false))⟩,
          ⟨(some 41), .cmp .gtr, [.tmp 40, .const (.int .i64 1000000)], (some (38, false))⟩,
          ⟨(some 42), .pick, [.tmp 38, .const (.bool true), .tmp 41], none⟩] false)
        (.cond (.tmp 42)
          (.seq (.ops [
            ⟨(some 2), .mov, [.const (.int .i64 2)], none⟩] false)
          .ret)
          .skip))
        (.seq (.ops [
          ⟨(some 43), .mov, [.tmp 3], none⟩,
          ⟨(some 44), .cmp .gtr, [.tmp 43, .const (.int .i64 0)], none⟩,
          ⟨(some 45), .mov, [.tmp 44], none⟩,
          ⟨(some 46), .faddr 0, [.tmp 4], (some (45, true))⟩,
          ⟨(some 47), .load 1 false, [.tmp 46], (some (45, true))⟩,
          ⟨(some 48), .mov, [.tmp 0], (some (45, true))⟩,
          ⟨(some 49), .mov, [.tmp 3], (some (45, true))⟩,
          ⟨(some 50), .bin .sub .i64 false, [.tmp 49, .const (.int .i64 1)], (some (45, true))⟩,
          ⟨(some 51), .idx 3, [.tmp 48, .tmp 50], (some (45, true))⟩,
          ⟨(some 52), .faddr 0, [.tmp 51], (some (45, true))⟩,
          ⟨(some 53), .load 1 false, [.tmp 52], (some (45, true))⟩,
          ⟨(some 54), .cmp .leq, [.tmp 47, .tmp 53], (some (45, true))⟩,
          ⟨(some 55), .pick, [.tmp 45, .tmp 54, .const (.bool false)], none⟩] true)
        (.cond (.tmp 55)
          (.seq (.ops [
            ⟨(some 2), .mov, [.const (.int .i64 11)], none⟩] false)
          .ret)
          .skip)))))
      (.ops [
        ⟨(some 56), .bin .add .i64 false, [.tmp 10, .const (.int .i64 1)], none⟩,
        ⟨(some 10), .mov, [.tmp 56], none⟩] false)))))))
  (.seq (.ops [
    ⟨(some 2), .mov, [.const (.int .i64 0)], none⟩] false)
  .ret))))⟩
theorem rgtLow : lowF Try.prog {} Try.f12 = some rgtIr := by kernel_rfl
def rgtS : Spec := spec (List Sf) (fun l => [L 3 (l.map encS)]) (fun l => l.length ≤ 9223372036854775807) (fun l => I (rightS l))
set_option maxHeartbeats 1000000 in
theorem rgtV : fnV Try.prog rgtIr rgtS := by
  intro (l : List Sf) (hl0 : l.length ≤ 9223372036854775807)
  have hl : (l.map encS).length = l.length := List.length_map ..
  show vc _ _ _ _ ⟨argEnv 0 [L 3 (l.map encS)], [], 0⟩
  by_cases h64 : 64 < l.length
  · have hR : rightS l = 4 := if_pos h64
    repeat' ((conv => whnf); first | (refine ⟨fun h => ?_, fun h => ?_⟩ <;> try (exfalso; first | omega | exact absurd h (by decide) | exact h rfl)) | fail | fail)
    all_goals (refine ⟨[], rfl, trivial, congrArg (CV.int .i64) ?_⟩; exact (hR).symm)
  have hR : rightS l = fe (sfE l) l.length := if_neg h64
  repeat' ((conv => whnf); first | (refine ⟨fun h => ?_, fun h => ?_⟩ <;> try (exfalso; first | omega | exact absurd h (by decide) | exact h rfl)) | fail | fail)
  refine ⟨Nat, fun xq => ⟨[(0, L 3 (l.map encS)), (8, L 3 (l.map encS)), (9, I (l.map encS).length), (10, I xq)], [], 0⟩, fun xq => xq ≤ l.length ∧ fe (sfE l) xq = 0, fun xq => l.length - xq, ⟨0, ?_, [], ⟨⟨rfl, rfl⟩, ⟨⟨rfl, rfl⟩, ⟨⟨rfl, rfl⟩, ⟨⟨rfl, rfl⟩, trivial⟩⟩⟩⟩, trivial, rfl, rfl, rfl⟩, ?_⟩
  · (try dsimp only); exact ⟨Nat.zero_le _, rfl⟩
  rintro k hk
  obtain ⟨hk, h0⟩ : k ≤ l.length ∧ fe (sfE l) k = 0 := hk
  (try dsimp only)
  by_cases hkl : k < l.length
  · obtain ⟨x, hx⟩ := getElem_some hkl
    by_cases hp : sfP x
    · have hp2 : (1 ≤ x.run ∧ x.run ≤ 9999) ∧ (-1 ≤ x.gr ∧ x.gr ≤ 20000000) ∧ 0 ≤ x.tr ∧ x.tr ≤ 1000000 := hp
      by_cases hk0 : 0 < k
      · obtain ⟨y, hy⟩ := getElem_some (show k - 1 < l.length by omega)
        by_cases hq : x.run ≤ y.run
        · have hE : sfE l k = 11 := by unfold sfE; rw [at_of hx, at_of hy, if_neg (Decidable.not_not.2 hp), if_pos ⟨hk0, hq⟩]
          have hF := fe_hit hkl h0 hE (by decide)
          repeat' ((conv => whnf); first | (refine ⟨fun h => ?_, fun h => ?_⟩ <;> try (exfalso; first | omega | exact absurd h (by decide) | exact h rfl)) | (refine ⟨by omega, fun r hrr => ?_⟩; first | ((have hre : r = encS x := by (first | exact get_row hrr hx | fail)); subst hre) | ((have hre : r = encS y := by (first | exact get_rowi (j := k - 1) hrr (by omega) hy | fail)); subst hre)) | (refine And.intro (And.intro (by omega) (by omega)) ?_) | fail | fail)
          all_goals (refine ⟨[], rfl, trivial, congrArg (CV.int .i64) ?_⟩; exact (hR.trans hF).symm)
        · have hE : sfE l k = 0 := by unfold sfE; rw [at_of hx, at_of hy, if_neg (Decidable.not_not.2 hp), if_neg (fun h => hq h.2)]
          repeat' ((conv => whnf); first | (refine ⟨fun h => ?_, fun h => ?_⟩ <;> try (exfalso; first | omega | exact absurd h (by decide) | exact h rfl)) | (refine ⟨by omega, fun r hrr => ?_⟩; first | ((have hre : r = encS x := by (first | exact get_row hrr hx | fail)); subst hre) | ((have hre : r = encS y := by (first | exact get_rowi (j := k - 1) hrr (by omega) hy | fail)); subst hre)) | (refine ⟨k + 1, ⟨?_, by (try dsimp only); omega⟩, [], ⟨⟨rfl, rfl⟩, ⟨⟨rfl, rfl⟩, ⟨⟨rfl, rfl⟩, ⟨⟨rfl, rfl⟩, trivial⟩⟩⟩⟩, trivial, rfl, rfl, rfl⟩; (try dsimp only); exact ⟨by omega, fe_go h0 hE⟩) | (refine And.intro (And.intro (by omega) (by omega)) ?_) | fail | fail)
      · have hE : sfE l k = 0 := by unfold sfE; rw [at_of hx, if_neg (Decidable.not_not.2 hp), if_neg (fun h => hk0 h.1)]
        repeat' ((conv => whnf); first | (refine ⟨fun h => ?_, fun h => ?_⟩ <;> try (exfalso; first | omega | exact absurd h (by decide) | exact h rfl)) | (refine ⟨by omega, fun r hrr => ?_⟩; first | ((have hre : r = encS x := by (first | exact get_row hrr hx | fail)); subst hre)) | (refine ⟨k + 1, ⟨?_, by (try dsimp only); omega⟩, [], ⟨⟨rfl, rfl⟩, ⟨⟨rfl, rfl⟩, ⟨⟨rfl, rfl⟩, ⟨⟨rfl, rfl⟩, trivial⟩⟩⟩⟩, trivial, rfl, rfl, rfl⟩; (try dsimp only); exact ⟨by omega, fe_go h0 hE⟩) | (refine And.intro (And.intro (by omega) (by omega)) ?_) | fail | fail)
    · have hp2 : ¬ ((1 ≤ x.run ∧ x.run ≤ 9999) ∧ (-1 ≤ x.gr ∧ x.gr ≤ 20000000) ∧ 0 ≤ x.tr ∧ x.tr ≤ 1000000) := hp
      have hE : sfE l k = 2 := by unfold sfE; rw [at_of hx, if_pos hp]
      have hF := fe_hit hkl h0 hE (by decide)
      repeat' ((conv => whnf); first | (refine ⟨fun h => ?_, fun h => ?_⟩ <;> try (exfalso; first | omega | exact absurd h (by decide) | exact h rfl)) | (refine ⟨by omega, fun r hrr => ?_⟩; first | ((have hre : r = encS x := by (first | exact get_row hrr hx | fail)); subst hre)) | (refine And.intro (And.intro (by omega) (by omega)) ?_) | fail | fail)
      all_goals (refine ⟨[], rfl, trivial, congrArg (CV.int .i64) ?_⟩; exact (hR.trans hF).symm)
  · have hkl' : k = l.length := by omega
    subst hkl'
    repeat' ((conv => whnf); first | (refine ⟨fun h => ?_, fun h => ?_⟩ <;> try (exfalso; first | omega | exact absurd h (by decide) | exact h rfl)) | fail | fail)
    all_goals (refine ⟨[], rfl, trivial, congrArg (CV.int .i64) ?_⟩; exact (hR.trans h0).symm)
theorem rgt_h : Holds Try.prog 12 rgtS := holds_of mix Try.func12 rgtLow (fun _ => rfl) rgtV

end Go.Proofs.Ytgjcoebfiangcaa
