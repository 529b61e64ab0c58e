/- Terrain: nodes and runs by their IDs. -/
import Derived.Test.YtoeichkblclfaaaT1
import Derived.Test.YtoeichkblclfaaaChecked
namespace Go.Proofs.Ytoeichkblclfaaa
open Go.RowKit
theorem mix : Try.prog.follows .mixedOrders = true := by kernel_rfl
abbrev e1 (n : Int) : List CV := [.int .i64 n]
abbrev encN (r : Node) : List CV := [.int .i64 r.id, .int .i64 r.alt]
abbrev aN (r : Node) : SV := .agg ((encN r).map .c)
abbrev encL (r : Lift) : List CV := [.int .i64 r.id, .int .i64 r.op, .int .i64 r.frm, .int .i64 r.to, .int .i64 r.len, .int .i64 r.spd, .int .i64 r.seats, .int .i64 r.sp]
abbrev aL (r : Lift) : SV := .agg ((encL r).map .c)
abbrev encU (r : Rn) : List CV := [.int .i64 r.id, .int .i64 r.op, .int .i64 r.frm, .int .i64 r.to, .int .i64 r.gr, .int .i64 r.zone, .int .i64 r.len]
abbrev aU (r : Rn) : SV := .agg ((encU r).map .c)
abbrev aM (m : Mp) : SV := .agg [L 2 (m.nodes.map encN), L 8 (m.lifts.map encL), L 7 (m.runs.map encU), L 1 (m.bases.map e1)]
def okM (m : Mp) : Prop := (m.nodes.length ≤ 9223372036854775807 ∧ m.lifts.length ≤ 9223372036854775807) ∧ m.runs.length ≤ 9223372036854775807 ∧ m.bases.length ≤ 9223372036854775807
def runOf (m : Mp) (i : Int) : Option Rn := firstOf (fun x => decide (x.id = i)) m.runs
/-- What a search returns: the element or the zero value, and whether there is one. -/
def foundT {α : Type} (enc : α → List CV) (z : α) (o : Option α) : SV := .tup [.agg ((enc (o.getD z)).map .c), .c (.bool o.isSome)]

/-! skiarea/skiarearef10.Node -/
def rnodeIr : IFn := ⟨28, [.cell 4 2 true, .tmp 5],
  (.seq (.ops [
    ⟨(some 2), .box, [.tmp 0], none⟩,
    ⟨(some 4), .alloc [.int .i64 0, .int .i64 0], [], none⟩,
    ⟨(some 5), .mov, [.const (.bool false)], none⟩] false)
  (.seq (.seq (.ops [
    ⟨(some 6), .mov, [.const (.int .i64 0)], none⟩] false)
  (.block 0
    (.loop
      (.seq (.seq (.ops [
        ⟨(some 7), .mov, [.tmp 6], none⟩,
        ⟨(some 8), .faddr 0, [.tmp 2], none⟩,
        ⟨(some 9), .load 1 false, [.tmp 8], none⟩,
        ⟨(some 10), .len, [.tmp 9], none⟩,
        ⟨(some 11), .cmp .lss, [.tmp 7, .tmp 10], none⟩] false)
      (.cond (.tmp 11)
        .skip
        (.exit 0)))
      (.seq (.block 1
        (.seq (.ops [
          ⟨(some 14), .faddr 0, [.tmp 2], none⟩,
          ⟨(some 15), .load 1 false, [.tmp 14], none⟩,
          ⟨(some 16), .mov, [.tmp 6], none⟩,
          ⟨(some 17), .idx 2, [.tmp 15, .tmp 16], none⟩,
          ⟨(some 18), .faddr 0, [.tmp 17], none⟩,
          ⟨(some 19), .load 1 false, [.tmp 18], none⟩,
          ⟨(some 20), .mov, [.tmp 1], none⟩,
          ⟨(some 21), .cmp .eql, [.tmp 19, .tmp 20], none⟩] false)
        (.cond (.tmp 21)
          (.seq (.ops [
            ⟨(some 22), .faddr 0, [.tmp 2], none⟩,
            ⟨(some 23), .load 1 false, [.tmp 22], none⟩,
            ⟨(some 24), .mov, [.tmp 6], none⟩,
            ⟨(some 25), .idx 2, [.tmp 23, .tmp 24], none⟩,
            ⟨(some 26), .load 2 true, [.tmp 25], none⟩,
            ⟨none, .store 2, [.tmp 4, .tmp 26], none⟩,
            ⟨(some 5), .mov, [.const (.bool true)], none⟩] false)
          .ret)
          .skip)))
      (.ops [
        ⟨(some 12), .mov, [.tmp 6], none⟩,
        ⟨(some 13), .bin .add .i64 false, [.tmp 12, .const (.int .i64 1)], none⟩,
        ⟨(some 6), .mov, [.tmp 13], none⟩] false))))))
  (.seq (.ops [
    ⟨(some 27), .build [.int .i64 0, .int .i64 0] [], [], none⟩,
    ⟨none, .store 2, [.tmp 4, .tmp 27], none⟩,
    ⟨(some 5), .mov, [.const (.bool false)], none⟩] false)
  .ret)))⟩
theorem rnodeLow : lowF Try.prog {} Try.f71 = some rnodeIr := by kernel_rfl
def rnodeS : Spec := spec (Mp × Int) (fun p => [aM p.1, I p.2]) (fun p => okM p.1) (fun p => foundT encN node0 (nodeOf p.1 p.2))
theorem rnodeV : fnV Try.prog rnodeIr rnodeS := by
  intro ⟨(m : Mp), (i : Int)⟩ hx
  obtain ⟨⟨n1, n2⟩, n3, n4⟩ : (m.nodes.length ≤ 9223372036854775807 ∧ m.lifts.length ≤ 9223372036854775807) ∧ m.runs.length ≤ 9223372036854775807 ∧ m.bases.length ≤ 9223372036854775807 := hx
  show vc _ _ _ _ ⟨argEnv 0 [aM m, I i], [], 0⟩
  have hl : (m.nodes.map encN).length = m.nodes.length := List.length_map ..
  conv => whnf
  refine ⟨Nat, fun xq => ⟨[(1, I i), (2, .bp 0 0), (4, .bp 1 0), (6, I xq)], [(0, .box [L 2 (m.nodes.map encN), L 8 (m.lifts.map encL), L 7 (m.runs.map encU), L 1 (m.bases.map e1)]), (1, .box ((encN node0).map .c))], 2⟩, fun xq => xq ≤ m.nodes.length ∧ ∀ y ∈ m.nodes.take xq, decide (y.id = i) = false, fun xq => m.nodes.length - xq, ⟨0, ?_, [], ⟨⟨rfl, rfl⟩, ⟨⟨rfl, rfl⟩, ⟨⟨rfl, rfl⟩, ⟨⟨rfl, rfl⟩, trivial⟩⟩⟩⟩, ⟨⟨rfl, rfl, rfl⟩, ⟨⟨rfl, rfl, rfl⟩, trivial⟩⟩, rfl, rfl, rfl⟩, ?_⟩
  · (try dsimp only); exact ⟨Nat.zero_le _, by simp⟩
  rintro k hk
  obtain ⟨hk, hn⟩ : k ≤ m.nodes.length ∧ ∀ y ∈ m.nodes.take k, decide (y.id = i) = false := hk
  (try dsimp only)
  by_cases hkl : k < m.nodes.length
  · obtain ⟨x, hx⟩ := getElem_some hkl
    by_cases hxi : x.id = i
    · have hf : nodeOf m i = some x := first_at hx hn (decide_eq_true hxi)
      repeat' ((conv => whnf); first | (refine ⟨fun h => ?_, fun h => ?_⟩ <;> try (exfalso; first | omega | exact absurd h (by decide) | exact h rfl)) | (refine ⟨by omega, fun r hrr => ?_⟩; first | ((have hre : r = encN x := by (first | exact get_row hrr hx | fail)); subst hre)) | fail | fail)
      all_goals (refine ⟨[], rfl, trivial, ?_⟩; show leR _ (foundT encN node0 (nodeOf m i)); rw [hf]; exact ⟨leV_refl _, rfl, trivial⟩)
    · repeat' ((conv => whnf); first | (refine ⟨fun h => ?_, fun h => ?_⟩ <;> try (exfalso; first | omega | exact absurd h (by decide) | exact h rfl)) | (refine ⟨by omega, fun r hrr => ?_⟩; first | ((have hre : r = encN x := by (first | exact get_row hrr hx | fail)); subst hre)) | (refine ⟨k + 1, ⟨?_, by (try dsimp only); omega⟩, [], ⟨⟨rfl, rfl⟩, ⟨⟨rfl, rfl⟩, ⟨⟨rfl, rfl⟩, ⟨⟨rfl, rfl⟩, trivial⟩⟩⟩⟩, ⟨⟨rfl, rfl, rfl⟩, ⟨⟨rfl, rfl, rfl⟩, trivial⟩⟩, rfl, rfl, rfl⟩; (try dsimp only); exact ⟨by omega, first_step hx hn (decide_eq_false hxi)⟩) | refine ⟨⟨by omega, by omega⟩, ?_⟩ | fail)
  · rw [take_end hkl] at hn
    have hf : nodeOf m i = none := first_none hn
    repeat' ((conv => whnf); first | (refine ⟨fun h => ?_, fun h => ?_⟩ <;> try (exfalso; first | omega | exact absurd h (by decide) | exact h rfl)) | fail | fail)
    all_goals (refine ⟨[], rfl, trivial, ?_⟩; show leR _ (foundT encN node0 (nodeOf m i)); rw [hf]; exact ⟨leV_refl _, rfl, trivial⟩)
theorem rnode_h : Holds Try.prog 71 rnodeS := holds_of mix Try.func71 rnodeLow (fun _ => rfl) rnodeV

/-! skiarea/terrain.Node -/
def nodeIr : IFn := ⟨22, [.cell 4 2 true, .tmp 5],
  (.seq (.ops [
    ⟨(some 2), .box, [.tmp 0], none⟩,
    ⟨(some 4), .alloc [.int .i64 0, .int .i64 0], [], none⟩,
    ⟨(some 5), .mov, [.const (.bool false)], none⟩] false)
  (.seq (.seq (.ops [
    ⟨(some 8), .faddr 0, [.tmp 2], none⟩,
    ⟨(some 9), .load 1 false, [.tmp 8], none⟩,
    ⟨(some 10), .len, [.tmp 9], none⟩,
    ⟨(some 11), .mov, [.const (.int .i64 0)], none⟩] false)
  (.block 0
    (.loop
      (.seq (.ops [
        ⟨(some 12), .cmp .lss, [.tmp 11, .tmp 10], none⟩] false)
      (.seq (.cond (.tmp 12)
        .skip
        (.exit 0))
      (.seq (.block 1
        (.seq (.ops [
          ⟨(some 13), .idx 2, [.tmp 9, .tmp 11], none⟩,
          ⟨(some 14), .load 2 true, [.tmp 13], none⟩,
          ⟨(some 7), .alloc [.int .i64 0, .int .i64 0], [], none⟩,
          ⟨none, .store 2, [.tmp 7, .tmp 14], none⟩] false)
        (.seq (.ops [
          ⟨(some 15), .faddr 0, [.tmp 7], none⟩,
          ⟨(some 16), .load 1 false, [.tmp 15], none⟩,
          ⟨(some 17), .mov, [.tmp 1], none⟩,
          ⟨(some 18), .cmp .eql, [.tmp 16, .tmp 17], none⟩] false)
        (.cond (.tmp 18)
          (.seq (.ops [
            ⟨(some 19), .load 2 true, [.tmp 7], none⟩,
            ⟨none, .store 2, [.tmp 4, .tmp 19], none⟩,
            ⟨(some 5), .mov, [.const (.bool true)], none⟩] false)
          .ret)
          .skip))))
      (.ops [
        ⟨(some 20), .bin .add .i64 false, [.tmp 11, .const (.int .i64 1)], none⟩,
        ⟨(some 11), .mov, [.tmp 20], none⟩] false)))))))
  (.seq (.ops [
    ⟨(some 21), .build [.int .i64 0, .int .i64 0] [], [], none⟩,
    ⟨none, .store 2, [.tmp 4, .tmp 21], none⟩,
    ⟨(some 5), .mov, [.const (.bool false)], none⟩] false)
  .ret)))⟩
theorem nodeLow : lowF Try.prog {} Try.f95 = some nodeIr := by kernel_rfl
def nodeS : Spec := spec (Mp × Int) (fun p => [aM p.1, I p.2]) (fun p => okM p.1) (fun p => foundT encN node0 (nodeOf p.1 p.2))
theorem nodeV : fnV Try.prog nodeIr nodeS := by
  intro ⟨(m : Mp), (i : Int)⟩ hx
  obtain ⟨⟨n1, n2⟩, n3, n4⟩ : (m.nodes.length ≤ 9223372036854775807 ∧ m.lifts.length ≤ 9223372036854775807) ∧ m.runs.length ≤ 9223372036854775807 ∧ m.bases.length ≤ 9223372036854775807 := hx
  show vc _ _ _ _ ⟨argEnv 0 [aM m, I i], [], 0⟩
  have hl : (m.nodes.map encN).length = m.nodes.length := List.length_map ..
  conv => whnf
  refine ⟨Nat, fun xq => ⟨[(1, I i), (4, .bp 0 0), (9, L 2 (m.nodes.map encN)), (10, I (m.nodes.map encN).length), (11, I xq)], [(0, .box ((encN node0).map .c))], 1⟩, fun xq => xq ≤ m.nodes.length ∧ ∀ y ∈ m.nodes.take xq, decide (y.id = i) = false, fun xq => m.nodes.length - xq, ⟨0, ?_, [(0, 1)], ⟨⟨rfl, rfl⟩, ⟨⟨rfl, rfl⟩, ⟨⟨rfl, rfl⟩, ⟨⟨rfl, rfl⟩, ⟨⟨rfl, rfl⟩, trivial⟩⟩⟩⟩⟩, ⟨⟨rfl, rfl, rfl⟩, trivial⟩, rfl, rfl, rfl⟩, ?_⟩
  · (try dsimp only); exact ⟨Nat.zero_le _, by simp⟩
  rintro k hk
  obtain ⟨hk, hn⟩ : k ≤ m.nodes.length ∧ ∀ y ∈ m.nodes.take k, decide (y.id = i) = false := hk
  (try dsimp only)
  by_cases hkl : k < m.nodes.length
  · obtain ⟨x, hx⟩ := getElem_some hkl
    by_cases hxi : x.id = i
    · have hf : nodeOf m i = some x := first_at hx hn (decide_eq_true hxi)
      repeat' ((conv => whnf); first | (refine ⟨fun h => ?_, fun h => ?_⟩ <;> try (exfalso; first | omega | exact absurd h (by decide) | exact h rfl)) | (refine ⟨by omega, fun r hrr => ?_⟩; first | ((have hre : r = encN x := by (first | exact get_row hrr hx | fail)); subst hre)) | fail | fail)
      all_goals (refine ⟨[], rfl, trivial, ?_⟩; show leR _ (foundT encN node0 (nodeOf m i)); rw [hf]; exact ⟨leV_refl _, rfl, trivial⟩)
    · repeat' ((conv => whnf); first | (refine ⟨fun h => ?_, fun h => ?_⟩ <;> try (exfalso; first | omega | exact absurd h (by decide) | exact h rfl)) | (refine ⟨by omega, fun r hrr => ?_⟩; first | ((have hre : r = encN x := by (first | exact get_row hrr hx | fail)); subst hre)) | (refine ⟨k + 1, ⟨?_, by (try dsimp only); omega⟩, [], ⟨⟨rfl, rfl⟩, ⟨⟨rfl, rfl⟩, ⟨⟨rfl, rfl⟩, ⟨⟨rfl, rfl⟩, ⟨⟨rfl, rfl⟩, trivial⟩⟩⟩⟩⟩, ⟨⟨rfl, rfl, rfl⟩, trivial⟩, rfl, rfl, rfl⟩; (try dsimp only); exact ⟨by omega, first_step hx hn (decide_eq_false hxi)⟩) | refine ⟨⟨by omega, by omega⟩, ?_⟩ | fail)
  · rw [take_end hkl] at hn
    have hf : nodeOf m i = none := first_none hn
    repeat' ((conv => whnf); first | (refine ⟨fun h => ?_, fun h => ?_⟩ <;> try (exfalso; first | omega | exact absurd h (by decide) | exact h rfl)) | fail | fail)
    all_goals (refine ⟨[], rfl, trivial, ?_⟩; show leR _ (foundT encN node0 (nodeOf m i)); rw [hf]; exact ⟨leV_refl _, rfl, trivial⟩)
theorem node_h : Holds Try.prog 95 nodeS := holds_of mix Try.func95 nodeLow (fun _ => rfl) nodeV

/-! skiarea/skiarearef10.Run -/
def rrunIr : IFn := ⟨28, [.cell 4 7 true, .tmp 5],
  (.seq (.ops [
    ⟨(some 2), .box, [.tmp 0], none⟩,
    ⟨(some 4), .alloc [.int .i64 0, .int .i64 0, .int .i64 0, .int .i64 0, .int .i64 0, .int .i64 0, .int .i64 0], [], none⟩,
    ⟨(some 5), .mov, [.const (.bool false)], none⟩] false)
  (.seq (.seq (.ops [
    ⟨(some 6), .mov, [.const (.int .i64 0)], none⟩] false)
  (.block 0
    (.loop
      (.seq (.seq (.ops [
        ⟨(some 7), .mov, [.tmp 6], none⟩,
        ⟨(some 8), .faddr 2, [.tmp 2], none⟩,
        ⟨(some 9), .load 1 false, [.tmp 8], none⟩,
        ⟨(some 10), .len, [.tmp 9], none⟩,
        ⟨(some 11), .cmp .lss, [.tmp 7, .tmp 10], none⟩] false)
      (.cond (.tmp 11)
        .skip
        (.exit 0)))
      (.seq (.block 1
        (.seq (.ops [
          ⟨(some 14), .faddr 2, [.tmp 2], none⟩,
          ⟨(some 15), .load 1 false, [.tmp 14], none⟩,
          ⟨(some 16), .mov, [.tmp 6], none⟩,
          ⟨(some 17), .idx 7, [.tmp 15, .tmp 16], none⟩,
          ⟨(some 18), .faddr 0, [.tmp 17], none⟩,
          ⟨(some 19), .load 1 false, [.tmp 18], none⟩,
          ⟨(some 20), .mov, [.tmp 1], none⟩,
          ⟨(some 21), .cmp .eql, [.tmp 19, .tmp 20], none⟩] false)
        (.cond (.tmp 21)
          (.seq (.ops [
            ⟨(some 22), .faddr 2, [.tmp 2], none⟩,
            ⟨(some 23), .load 1 false, [.tmp 22], none⟩,
            ⟨(some 24), .mov, [.tmp 6], none⟩,
            ⟨(some 25), .idx 7, [.tmp 23, .tmp 24], none⟩,
            ⟨(some 26), .load 7 true, [.tmp 25], none⟩,
            ⟨none, .store 7, [.tmp 4, .tmp 26], none⟩,
            ⟨(some 5), .mov, [.const (.bool true)], none⟩] false)
          .ret)
          .skip)))
      (.ops [
        ⟨(some 12), .mov, [.tmp 6], none⟩,
        ⟨(some 13), .bin .add .i64 false, [.tmp 12, .const (.int .i64 1)], none⟩,
        ⟨(some 6), .mov, [.tmp 13], none⟩] false))))))
  (.seq (.ops [
    ⟨(some 27), .build [.int .i64 0, .int .i64 0, .int .i64 0, .int .i64 0, .int .i64 0, .int .i64 0, .int .i64 0] [], [], none⟩,
    ⟨none, .store 7, [.tmp 4, .tmp 27], none⟩,
    ⟨(some 5), .mov, [.const (.bool false)], none⟩] false)
  .ret)))⟩
theorem rrunLow : lowF Try.prog {} Try.f78 = some rrunIr := by kernel_rfl
def rrunS : Spec := spec (Mp × Int) (fun p => [aM p.1, I p.2]) (fun p => okM p.1) (fun p => foundT encU run0 (runOf p.1 p.2))
theorem rrunV : fnV Try.prog rrunIr rrunS := by
  intro ⟨(m : Mp), (i : Int)⟩ hx
  obtain ⟨⟨n1, n2⟩, n3, n4⟩ : (m.nodes.length ≤ 9223372036854775807 ∧ m.lifts.length ≤ 9223372036854775807) ∧ m.runs.length ≤ 9223372036854775807 ∧ m.bases.length ≤ 9223372036854775807 := hx
  show vc _ _ _ _ ⟨argEnv 0 [aM m, I i], [], 0⟩
  have hl : (m.runs.map encU).length = m.runs.length := List.length_map ..
  conv => whnf
  refine ⟨Nat, fun xq => ⟨[(1, I i), (2, .bp 0 0), (4, .bp 1 0), (6, I xq)], [(0, .box [L 2 (m.nodes.map encN), L 8 (m.lifts.map encL), L 7 (m.runs.map encU), L 1 (m.bases.map e1)]), (1, .box ((encU run0).map .c))], 2⟩, fun xq => xq ≤ m.runs.length ∧ ∀ y ∈ m.runs.take xq, decide (y.id = i) = false, fun xq => m.runs.length - xq, ⟨0, ?_, [], ⟨⟨rfl, rfl⟩, ⟨⟨rfl, rfl⟩, ⟨⟨rfl, rfl⟩, ⟨⟨rfl, rfl⟩, trivial⟩⟩⟩⟩, ⟨⟨rfl, rfl, rfl⟩, ⟨⟨rfl, rfl, rfl⟩, trivial⟩⟩, rfl, rfl, rfl⟩, ?_⟩
  · (try dsimp only); exact ⟨Nat.zero_le _, by simp⟩
  rintro k hk
  obtain ⟨hk, hn⟩ : k ≤ m.runs.length ∧ ∀ y ∈ m.runs.take k, decide (y.id = i) = false := hk
  (try dsimp only)
  by_cases hkl : k < m.runs.length
  · obtain ⟨x, hx⟩ := getElem_some hkl
    by_cases hxi : x.id = i
    · have hf : runOf m i = some x := first_at hx hn (decide_eq_true hxi)
      repeat' ((conv => whnf); first | (refine ⟨fun h => ?_, fun h => ?_⟩ <;> try (exfalso; first | omega | exact absurd h (by decide) | exact h rfl)) | (refine ⟨by omega, fun r hrr => ?_⟩; first | ((have hre : r = encU x := by (first | exact get_row hrr hx | fail)); subst hre)) | fail | fail)
      all_goals (refine ⟨[], rfl, trivial, ?_⟩; show leR _ (foundT encU run0 (runOf m i)); rw [hf]; exact ⟨leV_refl _, rfl, trivial⟩)
    · repeat' ((conv => whnf); first | (refine ⟨fun h => ?_, fun h => ?_⟩ <;> try (exfalso; first | omega | exact absurd h (by decide) | exact h rfl)) | (refine ⟨by omega, fun r hrr => ?_⟩; first | ((have hre : r = encU x := by (first | exact get_row hrr hx | fail)); subst hre)) | (refine ⟨k + 1, ⟨?_, by (try dsimp only); omega⟩, [], ⟨⟨rfl, rfl⟩, ⟨⟨rfl, rfl⟩, ⟨⟨rfl, rfl⟩, ⟨⟨rfl, rfl⟩, trivial⟩⟩⟩⟩, ⟨⟨rfl, rfl, rfl⟩, ⟨⟨rfl, rfl, rfl⟩, trivial⟩⟩, rfl, rfl, rfl⟩; (try dsimp only); exact ⟨by omega, first_step hx hn (decide_eq_false hxi)⟩) | refine ⟨⟨by omega, by omega⟩, ?_⟩ | fail)
  · rw [take_end hkl] at hn
    have hf : runOf m i = none := first_none hn
    repeat' ((conv => whnf); first | (refine ⟨fun h => ?_, fun h => ?_⟩ <;> try (exfalso; first | omega | exact absurd h (by decide) | exact h rfl)) | fail | fail)
    all_goals (refine ⟨[], rfl, trivial, ?_⟩; show leR _ (foundT encU run0 (runOf m i)); rw [hf]; exact ⟨leV_refl _, rfl, trivial⟩)
theorem rrun_h : Holds Try.prog 78 rrunS := holds_of mix Try.func78 rrunLow (fun _ => rfl) rrunV

/-! skiarea/terrain.Run -/
def runIr : IFn := ⟨22, [.cell 4 7 true, .tmp 5],
  (.seq (.ops [
    ⟨(some 2), .box, [.tmp 0], none⟩,
    ⟨(some 4), .alloc [.int .i64 0, .int .i64 0, .int .i64 0, .int .i64 0, .int .i64 0, .int .i64 0, .int .i64 0], [], none⟩,
    ⟨(some 5), .mov, [.const (.bool false)], none⟩] false)
  (.seq (.seq (.ops [
    ⟨(some 8), .faddr 2, [.tmp 2], none⟩,
    ⟨(some 9), .load 1 false, [.tmp 8], none⟩,
    ⟨(some 10), .len, [.tmp 9], none⟩,
    ⟨(some 11), .mov, [.const (.int .i64 0)], none⟩] false)
  (.block 0
    (.loop
      (.seq (.ops [
        ⟨(some 12), .cmp .lss, [.tmp 11, .tmp 10], none⟩] false)
      (.seq (.cond (.tmp 12)
        .skip
        (.exit 0))
      (.seq (.block 1
        (.seq (.ops [
          ⟨(some 13), .idx 7, [.tmp 9, .tmp 11], none⟩,
          ⟨(some 14), .load 7 true, [.tmp 13], none⟩,
          ⟨(some 7), .alloc [.int .i64 0, .int .i64 0, .int .i64 0, .int .i64 0, .int .i64 0, .int .i64 0, .int .i64 0], [], none⟩,
          ⟨none, .store 7, [.tmp 7, .tmp 14], none⟩] false)
        (.seq (.ops [
          ⟨(some 15), .faddr 0, [.tmp 7], none⟩,
          ⟨(some 16), .load 1 false, [.tmp 15], none⟩,
          ⟨(some 17), .mov, [.tmp 1], none⟩,
          ⟨(some 18), .cmp .eql, [.tmp 16, .tmp 17], none⟩] false)
        (.cond (.tmp 18)
          (.seq (.ops [
            ⟨(some 19), .load 7 true, [.tmp 7], none⟩,
            ⟨none, .store 7, [.tmp 4, .tmp 19], none⟩,
            ⟨(some 5), .mov, [.const (.bool true)], none⟩] false)
          .ret)
          .skip))))
      (.ops [
        ⟨(some 20), .bin .add .i64 false, [.tmp 11, .const (.int .i64 1)], none⟩,
        ⟨(some 11), .mov, [.tmp 20], none⟩] false)))))))
  (.seq (.ops [
    ⟨(some 21), .build [.int .i64 0, .int .i64 0, .int .i64 0, .int .i64 0, .int .i64 0, .int .i64 0, .int .i64 0] [], [], none⟩,
    ⟨none, .store 7, [.tmp 4, .tmp 21], none⟩,
    ⟨(some 5), .mov, [.const (.bool false)], none⟩] false)
  .ret)))⟩
theorem runLow : lowF Try.prog {} Try.f76 = some runIr := by kernel_rfl
def runS : Spec := spec (Mp × Int) (fun p => [aM p.1, I p.2]) (fun p => okM p.1) (fun p => foundT encU run0 (runOf p.1 p.2))
theorem runV : fnV Try.prog runIr runS := by
  intro ⟨(m : Mp), (i : Int)⟩ hx
  obtain ⟨⟨n1, n2⟩, n3, n4⟩ : (m.nodes.length ≤ 9223372036854775807 ∧ m.lifts.length ≤ 9223372036854775807) ∧ m.runs.length ≤ 9223372036854775807 ∧ m.bases.length ≤ 9223372036854775807 := hx
  show vc _ _ _ _ ⟨argEnv 0 [aM m, I i], [], 0⟩
  have hl : (m.runs.map encU).length = m.runs.length := List.length_map ..
  conv => whnf
  refine ⟨Nat, fun xq => ⟨[(1, I i), (4, .bp 0 0), (9, L 7 (m.runs.map encU)), (10, I (m.runs.map encU).length), (11, I xq)], [(0, .box ((encU run0).map .c))], 1⟩, fun xq => xq ≤ m.runs.length ∧ ∀ y ∈ m.runs.take xq, decide (y.id = i) = false, fun xq => m.runs.length - xq, ⟨0, ?_, [(0, 1)], ⟨⟨rfl, rfl⟩, ⟨⟨rfl, rfl⟩, ⟨⟨rfl, rfl⟩, ⟨⟨rfl, rfl⟩, ⟨⟨rfl, rfl⟩, trivial⟩⟩⟩⟩⟩, ⟨⟨rfl, rfl, rfl⟩, trivial⟩, rfl, rfl, rfl⟩, ?_⟩
  · (try dsimp only); exact ⟨Nat.zero_le _, by simp⟩
  rintro k hk
  obtain ⟨hk, hn⟩ : k ≤ m.runs.length ∧ ∀ y ∈ m.runs.take k, decide (y.id = i) = false := hk
  (try dsimp only)
  by_cases hkl : k < m.runs.length
  · obtain ⟨x, hx⟩ := getElem_some hkl
    by_cases hxi : x.id = i
    · have hf : runOf m i = some x := first_at hx hn (decide_eq_true hxi)
      repeat' ((conv => whnf); first | (refine ⟨fun h => ?_, fun h => ?_⟩ <;> try (exfalso; first | omega | exact absurd h (by decide) | exact h rfl)) | (refine ⟨by omega, fun r hrr => ?_⟩; first | ((have hre : r = encU x := by (first | exact get_row hrr hx | fail)); subst hre)) | fail | fail)
      all_goals (refine ⟨[], rfl, trivial, ?_⟩; show leR _ (foundT encU run0 (runOf m i)); rw [hf]; exact ⟨leV_refl _, rfl, trivial⟩)
    · repeat' ((conv => whnf); first | (refine ⟨fun h => ?_, fun h => ?_⟩ <;> try (exfalso; first | omega | exact absurd h (by decide) | exact h rfl)) | (refine ⟨by omega, fun r hrr => ?_⟩; first | ((have hre : r = encU x := by (first | exact get_row hrr hx | fail)); subst hre)) | (refine ⟨k + 1, ⟨?_, by (try dsimp only); omega⟩, [], ⟨⟨rfl, rfl⟩, ⟨⟨rfl, rfl⟩, ⟨⟨rfl, rfl⟩, ⟨⟨rfl, rfl⟩, ⟨⟨rfl, rfl⟩, trivial⟩⟩⟩⟩⟩, ⟨⟨rfl, rfl, rfl⟩, trivial⟩, rfl, rfl, rfl⟩; (try dsimp only); exact ⟨by omega, first_step hx hn (decide_eq_false hxi)⟩) | refine ⟨⟨by omega, by omega⟩, ?_⟩ | fail)
  · rw [take_end hkl] at hn
    have hf : runOf m i = none := first_none hn
    repeat' ((conv => whnf); first | (refine ⟨fun h => ?_, fun h => ?_⟩ <;> try (exfalso; first | omega | exact absurd h (by decide) | exact h rfl)) | fail | fail)
    all_goals (refine ⟨[], rfl, trivial, ?_⟩; show leR _ (foundT encU run0 (runOf m i)); rw [hf]; exact ⟨leV_refl _, rfl, trivial⟩)
theorem run_h : Holds Try.prog 76 runS := holds_of mix Try.func76 runLow (fun _ => rfl) runV

end Go.Proofs.Ytoeichkblclfaaa
