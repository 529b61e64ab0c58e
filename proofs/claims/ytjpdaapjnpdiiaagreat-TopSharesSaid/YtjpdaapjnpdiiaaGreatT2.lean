/- A part of the proof. -/
import Derived.Test.YtjpdaapjnpdiiaaGreatS1
import Derived.Test.YtjpdaapjnpdiiaaGreatT1
namespace Go.Proofs.YtjpdaapjnpdiiaaGreat
open Go.RowKit
abbrev encN (r : Node) : List CV := [.int .i64 r.id, .int .i64 r.alt]
abbrev aN (r : Node) : SV := .agg ((encN r).map .c)
abbrev encL (r : Lift) : List CV := [.int .i64 r.id, .int .i64 r.op, .int .i64 r.frm, .int .i64 r.to, .int .i64 r.len, .int .i64 r.spd, .int .i64 r.seats, .int .i64 r.sp]
abbrev aL (r : Lift) : SV := .agg ((encL r).map .c)
abbrev encU (r : Rn) : List CV := [.int .i64 r.id, .int .i64 r.op, .int .i64 r.frm, .int .i64 r.to, .int .i64 r.gr, .int .i64 r.zone, .int .i64 r.len]
abbrev aM (m : Mp) : SV := .agg [L 2 (m.nodes.map encN), L 8 (m.lifts.map encL), L 7 (m.runs.map encU), L 1 (m.bases.map e1)]
def okM (m : Mp) : Prop := (m.nodes.length ≤ 9223372036854775807 ∧ m.lifts.length ≤ 9223372036854775807) ∧ m.runs.length ≤ 9223372036854775807 ∧ m.bases.length ≤ 9223372036854775807
def foundT {α : Type} (enc : α → List CV) (z : α) (o : Option α) : SV := .tup [.agg ((enc (o.getD z)).map .c), .c (.bool o.isSome)]
def rnodeIr : IFn := ⟨28, [.cell 4 2 true, .tmp 5], (zq [ zo 2 .box [0], zo 4 (.alloc [.int .i64 0, .int .i64 0]) [], zl 5 .mov [zf]] (.seq (zq [ zl 6 .mov [zi 0]] (.block 0 (.loop (.seq (zq [ zm 7 6, zo 8 (.faddr 0) [2], zo 9 (.load 1 false) [8], zo 10 .len [9], zo 11 (.cmp .lss) [7, 10]] (.cond (.tmp 11) .skip (.exit 0))) (.seq (.block 1 (zq [ zo 14 (.faddr 0) [2], zo 15 (.load 1 false) [14], zm 16 6, zo 17 (.idx 2) [15, 16], zo 18 (.faddr 0) [17], zo 19 (.load 1 false) [18], zm 20 1, zo 21 (.cmp .eql) [19, 20]] (.cond (.tmp 21) (zq [ zo 22 (.faddr 0) [2], zo 23 (.load 1 false) [22], zm 24 6, zo 25 (.idx 2) [23,
 24], zo 26 (.load 2 true) [25], zn (.store 2) [4, 26], zl 5 .mov [zv]] .ret) .skip))) (zp [ zm 12 6, zl 13 (.bin .add .i64 false) [.tmp 12, zi 1], zm 6 13])))))) (zq [ zo 27 (.build [.int .i64 0, .int .i64 0] []) [], zn (.store 2) [4, 27], zl 5 .mov [zf]] .ret)))⟩
theorem rnodeLow : lowF Tryz.prog {} Tryz.f54 = some rnodeIr := by kernel_rfl
def rnodeS : Spec := spec (Mp × Int) (fun p => [aM p.1, I p.2]) (fun p => okM p.1) (fun p => foundT encN node0 (nodeOf p.1 p.2))
theorem rnodeV : fnV Tryz.prog rnodeIr rnodeS := by
 intro ⟨(m : Mp), (i : Int)⟩ hx
 obtain ⟨⟨n1, n2⟩, n3, n4⟩ : (m.nodes.length ≤ 9223372036854775807 ∧ m.lifts.length ≤ 9223372036854775807) ∧ m.runs.length ≤ 9223372036854775807 ∧ m.bases.length ≤ 9223372036854775807 := hx
 show vc _ _ _ _ ⟨argEnv 0 [aM m, I i], [], 0⟩
 have hl : (m.nodes.map encN).length = m.nodes.length := List.length_map ..
 conv => whnf
 refine ⟨Nat, fun xq => ⟨[(1, I i), (2, .bp 0 0), (4, .bp 1 0), (6, I xq)], [(0, .box [L 2 (m.nodes.map encN), L 8 (m.lifts.map encL), L 7 (m.runs.map encU), L 1 (m.bases.map e1)]), (1, .box ((encN node0).map .c))], 2⟩, fun xq => xq ≤ m.nodes.length ∧ ∀ y ∈ m.nodes.take xq, decide (y.id = i) = false, fun xq => m.nodes.length - xq, ⟨0, ?_, [], ⟨⟨rfl, rfl⟩, ⟨rfl, rfl⟩, ⟨rfl, rfl⟩, ⟨rfl, rfl⟩, trivial⟩, ⟨⟨rfl, rfl, rfl⟩, ⟨rfl, rfl, rfl⟩, trivial⟩, rfl, rfl, rfl⟩, ?_⟩
 · (try dsimp only); exact ⟨Nat.zero_le _, by simp⟩
 rintro k hk
 obtain ⟨hk, hn⟩ : k ≤ m.nodes.length ∧ ∀ y ∈ m.nodes.take k, decide (y.id = i) = false := hk
 (try dsimp only)
 by_cases hkl : k < m.nodes.length
 · obtain ⟨x, hx⟩ := getElem_some hkl
   by_cases hxi : x.id = i
   · have hf : nodeOf m i = some x := first_at hx hn (decide_eq_true hxi)
     repeat' ((conv => whnf); first | (refine ⟨fun h => ?_, fun h => ?_⟩ <;> try (exfalso; first | omega | (revert h; decide) | exact h rfl)) | (refine ⟨by omega, fun r hrr => ?_⟩; first | ((have hre : r = encN x := by (first | exact get_row hrr hx | fail)); subst hre)) | fail)
     all_goals (refine ⟨[], rfl, trivial, ?_⟩; show leR _ (foundT encN node0 (nodeOf m i)); rw [hf]; exact ⟨leV_refl _, rfl, trivial⟩)
   · repeat' ((conv => whnf); first | (refine ⟨fun h => ?_, fun h => ?_⟩ <;> try (exfalso; first | omega | (revert h; decide) | exact h rfl)) | (refine ⟨by omega, fun r hrr => ?_⟩; first | ((have hre : r = encN x := by (first | exact get_row hrr hx | fail)); subst hre)) | (refine ⟨k + 1, ⟨?_, by (try dsimp only); omega⟩, [], ⟨⟨rfl, rfl⟩, ⟨rfl, rfl⟩, ⟨rfl, rfl⟩, ⟨rfl, rfl⟩, trivial⟩, ⟨⟨rfl, rfl, rfl⟩, ⟨rfl, rfl, rfl⟩, trivial⟩, rfl, rfl, rfl⟩; (try dsimp only); exact ⟨by omega, first_step hx hn (decide_eq_false hxi)⟩) | refine ⟨⟨by omega, by omega⟩, ?_⟩ | fail)
 · rw [take_end hkl] at hn
   have hf : nodeOf m i = none := first_none hn
   repeat' ((conv => whnf); first | (refine ⟨fun h => ?_, fun h => ?_⟩ <;> try (exfalso; first | omega | (revert h; decide) | exact h rfl)) | fail)
   all_goals (refine ⟨[], rfl, trivial, ?_⟩; show leR _ (foundT encN node0 (nodeOf m i)); rw [hf]; exact ⟨leV_refl _, rfl, trivial⟩)
theorem rnode_h : Holds Tryz.prog 54 rnodeS := holds_of mix Tryz.func54 rnodeLow (fun _ => rfl) rnodeV
def liftIr : IFn := ⟨22, [.cell 4 8 true, .tmp 5], (zq [ zo 2 .box [0], zo 4 (.alloc [.int .i64 0, .int .i64 0, .int .i64 0, .int .i64 0, .int .i64 0, .int .i64 0, .int .i64 0, .int .i64 0]) [], zl 5 .mov [zf]] (.seq (zq [ zo 8 (.faddr 1) [2], zo 9 (.load 1 false) [8], zo 10 .len [9], zl 11 .mov [zi 0]] (.block 0 (.loop (zq [ zo 12 (.cmp .lss) [11, 10]] (.seq (.cond (.tmp 12) .skip (.exit 0)) (.seq (.block 1 (zq [ zo 13 (.idx 8) [9, 11], zo 14 (.load 8 true) [13], zo 7 (.alloc [.int .i64 0, .int .i64 0, .int .i64 0, .int .i64 0, .int .i64 0, .int .i64 0, .int .i64 0, .int .i64 0]) [], zn (.store 8) [7, 14]] (zq [
 zo 15 (.faddr 0) [7], zo 16 (.load 1 false) [15], zm 17 1, zo 18 (.cmp .eql) [16, 17]] (.cond (.tmp 18) (zq [ zo 19 (.load 8 true) [7], zn (.store 8) [4, 19], zl 5 .mov [zv]] .ret) .skip)))) (zp [ zl 20 (.bin .add .i64 false) [.tmp 11, zi 1], zm 11 20]))))))) (zq [ zo 21 (.build [.int .i64 0, .int .i64 0, .int .i64 0, .int .i64 0, .int .i64 0, .int .i64 0, .int .i64 0, .int .i64 0] []) [], zn (.store 8) [4, 21], zl 5 .mov [zf]] .ret)))⟩
theorem liftLow : lowF Tryz.prog {} Tryz.f56 = some liftIr := by kernel_rfl
def liftS : Spec := spec (Mp × Int) (fun p => [aM p.1, I p.2]) (fun p => okM p.1) (fun p => foundT encL lift0 (liftOf p.1 p.2))
theorem liftV : fnV Tryz.prog liftIr liftS := by
 intro ⟨(m : Mp), (i : Int)⟩ hx
 obtain ⟨⟨n1, n2⟩, n3, n4⟩ : (m.nodes.length ≤ 9223372036854775807 ∧ m.lifts.length ≤ 9223372036854775807) ∧ m.runs.length ≤ 9223372036854775807 ∧ m.bases.length ≤ 9223372036854775807 := hx
 show vc _ _ _ _ ⟨argEnv 0 [aM m, I i], [], 0⟩
 have hl : (m.lifts.map encL).length = m.lifts.length := List.length_map ..
 conv => whnf
 refine ⟨Nat, fun xq => ⟨[(1, I i), (4, .bp 0 0), (9, L 8 (m.lifts.map encL)), (10, I (m.lifts.map encL).length), (11, I xq)], [(0, .box ((encL lift0).map .c))], 1⟩, fun xq => xq ≤ m.lifts.length ∧ ∀ y ∈ m.lifts.take xq, decide (y.id = i) = false, fun xq => m.lifts.length - xq, ⟨0, ?_, [(0, 1)], ⟨⟨rfl, rfl⟩, ⟨rfl, rfl⟩, ⟨rfl, rfl⟩, ⟨rfl, rfl⟩, ⟨rfl, rfl⟩, trivial⟩, ⟨⟨rfl, rfl, rfl⟩, trivial⟩, rfl, rfl, rfl⟩, ?_⟩
 · (try dsimp only); exact ⟨Nat.zero_le _, by simp⟩
 rintro k hk
 obtain ⟨hk, hn⟩ : k ≤ m.lifts.length ∧ ∀ y ∈ m.lifts.take k, decide (y.id = i) = false := hk
 (try dsimp only)
 by_cases hkl : k < m.lifts.length
 · obtain ⟨x, hx⟩ := getElem_some hkl
   by_cases hxi : x.id = i
   · have hf : liftOf m i = some x := first_at hx hn (decide_eq_true hxi)
     repeat' ((conv => whnf); first | (refine ⟨fun h => ?_, fun h => ?_⟩ <;> try (exfalso; first | omega | (revert h; decide) | exact h rfl)) | (refine ⟨by omega, fun r hrr => ?_⟩; first | ((have hre : r = encL x := by (first | exact get_row hrr hx | fail)); subst hre)) | fail)
     all_goals (refine ⟨[], rfl, trivial, ?_⟩; show leR _ (foundT encL lift0 (liftOf m i)); rw [hf]; exact ⟨leV_refl _, rfl, trivial⟩)
   · repeat' ((conv => whnf); first | (refine ⟨fun h => ?_, fun h => ?_⟩ <;> try (exfalso; first | omega | (revert h; decide) | exact h rfl)) | (refine ⟨by omega, fun r hrr => ?_⟩; first | ((have hre : r = encL x := by (first | exact get_row hrr hx | fail)); subst hre)) | (refine ⟨k + 1, ⟨?_, by (try dsimp only); omega⟩, [], ⟨⟨rfl, rfl⟩, ⟨rfl, rfl⟩, ⟨rfl, rfl⟩, ⟨rfl, rfl⟩, ⟨rfl, rfl⟩, trivial⟩, ⟨⟨rfl, rfl, rfl⟩, trivial⟩, rfl, rfl, rfl⟩; (try dsimp only); exact ⟨by omega, first_step hx hn (decide_eq_false hxi)⟩) | refine ⟨⟨by omega, by omega⟩, ?_⟩ | fail)
 · rw [take_end hkl] at hn
   have hf : liftOf m i = none := first_none hn
   repeat' ((conv => whnf); first | (refine ⟨fun h => ?_, fun h => ?_⟩ <;> try (exfalso; first | omega | (revert h; decide) | exact h rfl)) | fail)
   all_goals (refine ⟨[], rfl, trivial, ?_⟩; show leR _ (foundT encL lift0 (liftOf m i)); rw [hf]; exact ⟨leV_refl _, rfl, trivial⟩)
theorem lift_h : Holds Tryz.prog 56 liftS := holds_of mix Tryz.func56 liftLow (fun _ => rfl) liftV
end Go.Proofs.YtjpdaapjnpdiiaaGreat
