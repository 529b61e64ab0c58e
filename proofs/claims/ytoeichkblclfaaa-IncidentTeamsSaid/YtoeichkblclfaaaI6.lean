/- Incidents: the reference's changes. -/
import Derived.Test.YtoeichkblclfaaaI5
namespace Go.Proofs.Ytoeichkblclfaaa
open Go.RowKit

/-! skiarea/skiarearef57.Find -/
def rfindIr : IFn := ⟨20, [.tmp 4],
  (.seq (.ops [
    ⟨(some 4), .mov, [.const (.int .i64 0)], none⟩] false)
  (.seq (.seq (.ops [
    ⟨(some 5), .mov, [.const (.int .i64 0)], none⟩] false)
  (.block 0
    (.loop
      (.seq (.seq (.ops [
        ⟨(some 6), .mov, [.tmp 5], none⟩,
        ⟨(some 7), .mov, [.tmp 0], none⟩,
        ⟨(some 8), .len, [.tmp 7], none⟩,
        ⟨(some 9), .cmp .lss, [.tmp 6, .tmp 8], none⟩] false)
      (.cond (.tmp 9)
        .skip
        (.exit 0)))
      (.seq (.block 1
        (.seq (.ops [
          ⟨(some 12), .mov, [.tmp 0], none⟩,
          ⟨(some 13), .mov, [.tmp 5], none⟩,
          ⟨(some 14), .idx 6, [.tmp 12, .tmp 13], none⟩,
          ⟨(some 15), .faddr 0, [.tmp 14], none⟩,
          ⟨(some 16), .load 1 false, [.tmp 15], none⟩,
          ⟨(some 17), .mov, [.tmp 1], none⟩,
          ⟨(some 18), .cmp .eql, [.tmp 16, .tmp 17], none⟩] false)
        (.cond (.tmp 18)
          (.seq (.ops [
            ⟨(some 19), .mov, [.tmp 5], none⟩,
            ⟨(some 4), .mov, [.tmp 19], none⟩] false)
          .ret)
          .skip)))
      (.ops [
        ⟨(some 10), .mov, [.tmp 5], none⟩,
        ⟨(some 11), .bin .add .i64 false, [.tmp 10, .const (.int .i64 1)], none⟩,
        ⟨(some 5), .mov, [.tmp 11], none⟩] false))))))
  (.seq (.ops [
    ⟨(some 4), .mov, [.const (.int .i64 (-1))], none⟩] false)
  .ret)))⟩
theorem rfindLow : lowF Try.prog {} Try.f19 = some rfindIr := by kernel_rfl
def rfindS : Spec := spec (List Inc × Int) (fun p => [L 6 (p.1.map encI), I p.2]) (fun p => p.1.length ≤ 9223372036854775807) (fun p => I (ixF (idB p.2) p.1))
theorem rfindV : fnV Try.prog rfindIr rfindS := by
  intro ⟨(l : List Inc), (id : Int)⟩ hl0
  replace hl0 : l.length ≤ 9223372036854775807 := hl0
  have hl : (l.map encI).length = l.length := List.length_map ..
  show vc _ _ _ _ ⟨argEnv 0 [L 6 (l.map encI), I id], [], 0⟩
  conv => whnf
  refine ⟨Nat, fun xq => ⟨[(0, L 6 (l.map encI)), (1, I id), (5, I xq)], [], 0⟩, fun xq => xq ≤ l.length ∧ ∀ y ∈ l.take xq, idB id y = false, fun xq => l.length - xq, ⟨0, ?_, [], ⟨⟨rfl, rfl⟩, ⟨⟨rfl, rfl⟩, ⟨⟨rfl, rfl⟩, trivial⟩⟩⟩, trivial, rfl, rfl, rfl⟩, ?_⟩
  · (try dsimp only); exact ⟨Nat.zero_le _, by simp⟩
  rintro k hk
  obtain ⟨hk, h0⟩ : k ≤ l.length ∧ ∀ y ∈ l.take k, idB id y = false := hk
  (try dsimp only)
  by_cases hkl : k < l.length
  · obtain ⟨x, hx⟩ := getElem_some hkl
    by_cases hp : x.id = id
    · repeat' ((conv => whnf); first | (refine ⟨fun h => ?_, fun h => ?_⟩ <;> try (exfalso; first | omega | exact absurd h (by decide) | exact h rfl | exact absurd (show true = false from h) (by decide) | exact absurd (show false = true from h) (by decide))) | (refine ⟨by omega, fun r hrr => ?_⟩; first | ((have hre : r = encI x := by (first | exact get_row hrr hx | fail)); subst hre)) | fail | fail)
      all_goals (refine ⟨[], rfl, trivial, congrArg (CV.int .i64) ?_⟩; exact (ix_hit hx h0 (show idB id x = true from decide_eq_true hp)).symm)
    · repeat' ((conv => whnf); first | (refine ⟨fun h => ?_, fun h => ?_⟩ <;> try (exfalso; first | omega | exact absurd h (by decide) | exact h rfl | exact absurd (show true = false from h) (by decide) | exact absurd (show false = true from h) (by decide))) | (refine ⟨by omega, fun r hrr => ?_⟩; first | ((have hre : r = encI x := by (first | exact get_row hrr hx | fail)); subst hre)) | (refine ⟨k + 1, ⟨?_, by (try dsimp only); omega⟩, [], ⟨⟨rfl, rfl⟩, ⟨⟨rfl, rfl⟩, ⟨⟨rfl, rfl⟩, trivial⟩⟩⟩, trivial, rfl, rfl, rfl⟩; (try dsimp only); exact ⟨by omega, first_step hx h0 (decide_eq_false hp)⟩) | refine ⟨⟨by omega, by omega⟩, ?_⟩ | fail)
  · rw [take_end hkl] at h0
    repeat' ((conv => whnf); first | (refine ⟨fun h => ?_, fun h => ?_⟩ <;> try (exfalso; first | omega | exact absurd h (by decide) | exact h rfl | exact absurd (show true = false from h) (by decide) | exact absurd (show false = true from h) (by decide))) | fail | fail)
    all_goals (refine ⟨[], rfl, trivial, congrArg (CV.int .i64) ?_⟩; exact (ix_none h0).symm)
theorem rfind_h : Holds Try.prog 19 rfindS := holds_of mix Try.func19 rfindLow (fun _ => rfl) rfindV

/-! skiarea/skiarearef57.Report -/
def rreportIr : IFn := ⟨28, [.tmp 8, .tmp 9],
  (.seq (.ops [
    ⟨(some 8), .mov, [.const (.slice none 0 0)], none⟩,
    ⟨(some 9), .mov, [.const (.int .i64 0)], none⟩] false)
  (.seq (.ops [
    ⟨(some 10), .nilOwn 38 6, [], none⟩] false)
  (.seq (.ops [
    ⟨(some 12), .mov, [.tmp 10], none⟩,
    ⟨(some 13), .mov, [.tmp 0], none⟩,
    ⟨(some 14), .append 38 6 48, [.tmp 12, .tmp 13], none⟩,
    ⟨(some 10), .mov, [.tmp 14], none⟩] false)
  (.seq (.ops [
    ⟨(some 15), .mov, [.tmp 10], none⟩,
    ⟨(some 16), .mov, [.tmp 1], none⟩,
    ⟨(some 17), .mov, [.tmp 2], none⟩,
    ⟨(some 18), .mov, [.tmp 3], none⟩,
    ⟨(some 19), .build [.int .i64 0, .int .i64 0, .int .i64 0, .int .i64 0, .int .i64 0, .int .i64 0] [(0, 1), (1, 1), (3, 1), (5, 1)], [.tmp 16, .tmp 17, .const (.int .i64 1), .tmp 18], none⟩,
    ⟨(some 20), .buildSl 38 6, [.tmp 19], none⟩,
    ⟨(some 21), .append 38 6 48, [.tmp 15, .tmp 20], none⟩,
    ⟨(some 10), .mov, [.tmp 21], none⟩] false)
  (.seq (.seq (.ops [
    ⟨(some 22), .mov, [.tmp 10], none⟩,
    ⟨(some 23), .call 11, [.tmp 22], none⟩,
    ⟨(some 11), .mov, [.tmp 23], none⟩] false)
  (.seq (.ops [
    ⟨(some 24), .mov, [.tmp 11], none⟩,
    ⟨(some 25), .cmp .neq, [.tmp 24, .const (.int .i64 0)], none⟩] false)
  (.cond (.tmp 25)
    (.seq (.ops [
      ⟨(some 26), .mov, [.tmp 11], none⟩,
      ⟨(some 8), .mov, [.const (.slice none 0 0)], none⟩,
      ⟨(some 9), .mov, [.tmp 26], none⟩] false)
    .ret)
    .skip)))
  (.seq (.ops [
    ⟨(some 27), .mov, [.tmp 10], none⟩,
    ⟨(some 8), .mov, [.tmp 27], none⟩,
    ⟨(some 9), .mov, [.const (.int .i64 0)], none⟩] false)
  .ret))))))⟩
theorem rreportLow : lowF Try.prog { owns := [(10, 38)] } Try.f34 = some rreportIr := by kernel_rfl
def rreportS : Spec := spec (List Inc × Int × Int × Int) (fun p => [L 6 (p.1.map encI), I p.2.1, I p.2.2.1, I p.2.2.2]) (fun p => p.1.length ≤ 64) (fun p => resT (reportF p.1 p.2.1 p.2.2.1 p.2.2.2))
theorem rreportV : fnV Try.prog rreportIr rreportS := by
  intro ⟨(l : List Inc), (id : Int), (run : Int), (t : Int)⟩ hx
  replace hx : l.length ≤ 64 := hx
  have hl : (l.map encI).length = l.length := List.length_map ..
  show vc _ _ _ _ ⟨argEnv 0 [L 6 (l.map encI), I id, I run, I t], [], 0⟩
  obtain ⟨o, ho⟩ : ∃ o, l ++ [⟨id, run, 0, 1, 0, t⟩] = o := ⟨_, rfl⟩
  have hol : o.length = l.length + 1 := by rw [← ho]; simp
  have hm : l.map encI ++ [encI ⟨id, run, 0, 1, 0, t⟩] = o.map encI := by rw [← ho]; simp
  have hR : reportF l id run t = if rightI o ≠ 0 then ([], rightI o) else (o, 0) := by unfold reportF; rw [ho]
  obtain ⟨e, hE⟩ : ∃ e, rightI o = e := ⟨_, rfl⟩
  rw [hE] at hR
  by_cases he : e = 0
  · rw [if_neg (by omega)] at hR
    repeat' ((conv => whnf); first | (refine ⟨fun h => ?_, fun h => ?_⟩ <;> try (exfalso; first | omega | exact absurd h (by decide) | exact h rfl | exact absurd (show true = false from h) (by decide) | exact absurd (show false = true from h) (by decide))) | (refine ⟨⟨by simp; omega, by simp; omega⟩, ?_⟩) | (refine ⟨_, rright_h, o, (by show o.length ≤ 9223372036854775807; omega), ⟨by show leC (.sl 6 (l.map encI ++ [encI ⟨id, run, 0, 1, 0, t⟩])) (.sl 6 (o.map encI)); rw [hm]; rfl, trivial⟩, .inr rfl, rfl, ?_⟩; show norm (I (rightI o)) _; rw [hE]) | fail | fail)
    all_goals (refine ⟨[], rfl, trivial, ?_⟩; show leR [L 6 (l.map encI ++ [encI ⟨id, run, 0, 1, 0, t⟩]), I 0] (resT _); rw [hR, hm]; exact ⟨rfl, rfl, trivial⟩)
  · rw [if_pos he] at hR
    repeat' ((conv => whnf); first | (refine ⟨fun h => ?_, fun h => ?_⟩ <;> try (exfalso; first | omega | exact absurd h (by decide) | exact h rfl | exact absurd (show true = false from h) (by decide) | exact absurd (show false = true from h) (by decide))) | (refine ⟨⟨by simp; omega, by simp; omega⟩, ?_⟩) | (refine ⟨_, rright_h, o, (by show o.length ≤ 9223372036854775807; omega), ⟨by show leC (.sl 6 (l.map encI ++ [encI ⟨id, run, 0, 1, 0, t⟩])) (.sl 6 (o.map encI)); rw [hm]; rfl, trivial⟩, .inr rfl, rfl, ?_⟩; show norm (I (rightI o)) _; rw [hE]) | fail | fail)
    all_goals (refine ⟨[], rfl, trivial, ?_⟩; show leR [.c .nil, I _] (resT _); rw [hR]; exact ⟨rfl, rfl, trivial⟩)
theorem rreport_h : Holds Try.prog 34 rreportS := holds_of mix Try.func34 rreportLow (fun _ => rfl) rreportV
def comF (l : List Inc) (id t : Int) : Int × Int := if ixF (idB id) l < 0 then (0, 8) else if t < (at_ l inc0 (ixF (idB id) l).toNat).since ∨ 20000000 < t then (0, 11) else (ixF (idB id) l, 0)
theorem com_at {l : List Inc} {id t : Int} {k : Nat} {x : Inc} (h : ixF (idB id) l = (k : Int)) (hx : l[k]? = some x) : comF l id t = if t < x.since ∨ 20000000 < t then (0, 11) else ((k : Int), 0) := by
  unfold comF; rw [if_neg (by omega), h, Int.toNat_natCast, at_of hx]

/-! skiarea/skiarearef57.common -/
def commonIr : IFn := ⟨26, [.tmp 6, .tmp 7],
  (.seq (.ops [
    ⟨(some 6), .mov, [.const (.int .i64 0)], none⟩,
    ⟨(some 7), .mov, [.const (.int .i64 0)], none⟩] false)
  (.seq (.ops [
    ⟨(some 9), .mov, [.tmp 0], none⟩,
    ⟨(some 10), .mov, [.tmp 1], none⟩,
    ⟨(some 11), .call 19, [.tmp 9, .tmp 10], none⟩,
    ⟨(some 8), .mov, [.tmp 11], none⟩] false)
  (.seq (.seq (.ops [
    ⟨(some 12), .mov, [.tmp 8], none⟩,
    ⟨(some 13), .cmp .lss, [.tmp 12, .const (.int .i64 0)], none⟩] false)
  (.cond (.tmp 13)
    (.seq (.ops [
      ⟨(some 6), .mov, [.const (.int .i64 0)], none⟩,
      ⟨(some 7), .mov, [.const (.int .i64 8)], none⟩] false)
    .ret)
    .skip))
  (.seq (.seq (.ops [
    ⟨(some 14), .mov, [.tmp 2], none⟩,
    ⟨(some 15), .mov, [.tmp 0], none⟩,
    ⟨(some 16), .mov, [.tmp 8], none⟩,
    ⟨(some 17), .idx 6, [.tmp 15, .tmp 16], none⟩,
    ⟨(some 18), .faddr 5, [.tmp 17], none⟩,
    ⟨(some 19), .load 1 false, [.tmp 18], none⟩,
    ⟨(some 20), .cmp .lss, [.tmp 14, .tmp 19], none⟩,
    ⟨(some 21), .mov, [.tmp 20], none⟩,
    ⟨(some 22), .mov, [.tmp 2], (some (21, false))⟩,
    ⟨(some 23), .cmp .gtr, [.tmp 22, .const (.int .i64 20000000)], (some (21, false))⟩,
    ⟨(some 24), .pick, [.tmp 21, .const (.bool true), .tmp 23], none⟩] false)
  (.cond (.tmp 24)
    (.seq (.ops [
      ⟨(some 6), .mov, [.const (.int .i64 0)], none⟩,
      ⟨(some 7), .mov, [.const (.int .i64 11)], none⟩] false)
    .ret)
    .skip))
  (.seq (.ops [
    ⟨(some 25), .mov, [.tmp 8], none⟩,
    ⟨(some 6), .mov, [.tmp 25], none⟩,
    ⟨(some 7), .mov, [.const (.int .i64 0)], none⟩] false)
  .ret)))))⟩
theorem commonLow : lowF Try.prog {} Try.f63 = some commonIr := by kernel_rfl
def commonS : Spec := spec (List Inc × Int × Int) (fun p => [L 6 (p.1.map encI), I p.2.1, I p.2.2]) (fun p => p.1.length ≤ 64) (fun p => .tup [I (comF p.1 p.2.1 p.2.2).1, I (comF p.1 p.2.1 p.2.2).2])
theorem commonV : fnV Try.prog commonIr commonS := by
  intro ⟨(l : List Inc), (id : Int), (t : Int)⟩ hx0
  replace hx0 : l.length ≤ 64 := hx0
  have hl : (l.map encI).length = l.length := List.length_map ..
  show vc _ _ _ _ ⟨argEnv 0 [L 6 (l.map encI), I id, I t], [], 0⟩
  rcases ix_cases (idB id) l with ⟨q1, _⟩ | ⟨k, x, q1, hx, _, _, _⟩
  · repeat' ((conv => whnf); first | (refine ⟨fun h => ?_, fun h => ?_⟩ <;> try (exfalso; first | omega | exact absurd h (by decide) | exact h rfl | exact absurd (show true = false from h) (by decide) | exact absurd (show false = true from h) (by decide))) | (refine ⟨_, rfind_h, (l, id), (by show l.length ≤ 9223372036854775807; omega), leVs_of_eq rfl, .inl rfl, rfl, ?_⟩; show norm (I (ixF (idB id) l)) _; rw [q1]) | fail | fail)
    all_goals (refine ⟨[], rfl, trivial, ?_⟩; show leR [I _, I _] (.tup [I (comF l id t).1, I (comF l id t).2]); rw [(show comF l id t = (0, 8) from if_pos (by omega))]; exact ⟨rfl, rfl, trivial⟩)
  · have hkl := (List.getElem?_eq_some_iff.1 hx).1
    have hC := com_at (t := t) q1 hx
    by_cases hlt : t < x.since ∨ 20000000 < t
    · rw [if_pos hlt] at hC
      repeat' ((conv => whnf); first | (refine ⟨fun h => ?_, fun h => ?_⟩ <;> try (exfalso; first | omega | exact absurd h (by decide) | exact h rfl | exact absurd (show true = false from h) (by decide) | exact absurd (show false = true from h) (by decide))) | (refine ⟨_, rfind_h, (l, id), (by show l.length ≤ 9223372036854775807; omega), leVs_of_eq rfl, .inl rfl, rfl, ?_⟩; show norm (I (ixF (idB id) l)) _; rw [q1]) | (refine ⟨by omega, fun r hrr => ?_⟩; first | ((have hre : r = encI x := by (first | exact get_row hrr hx | fail)); subst hre)) | fail | fail)
      all_goals (refine ⟨[], rfl, trivial, ?_⟩; show leR [I _, I _] (.tup [I (comF l id t).1, I (comF l id t).2]); rw [hC]; exact ⟨rfl, rfl, trivial⟩)
    · rw [if_neg hlt] at hC
      repeat' ((conv => whnf); first | (refine ⟨fun h => ?_, fun h => ?_⟩ <;> try (exfalso; first | omega | exact absurd h (by decide) | exact h rfl | exact absurd (show true = false from h) (by decide) | exact absurd (show false = true from h) (by decide))) | (refine ⟨_, rfind_h, (l, id), (by show l.length ≤ 9223372036854775807; omega), leVs_of_eq rfl, .inl rfl, rfl, ?_⟩; show norm (I (ixF (idB id) l)) _; rw [q1]) | (refine ⟨by omega, fun r hrr => ?_⟩; first | ((have hre : r = encI x := by (first | exact get_row hrr hx | fail)); subst hre)) | fail | fail)
      all_goals (refine ⟨[], rfl, trivial, ?_⟩; show leR [I _, I _] (.tup [I (comF l id t).1, I (comF l id t).2]); rw [hC]; exact ⟨rfl, rfl, trivial⟩)
theorem common_h : Holds Try.prog 63 commonS := holds_of mix Try.func63 commonLow (fun _ => rfl) commonV

/-! skiarea/skiarearef57.with -/
def with_Ir : IFn := ⟨20, [.tmp 8],
  (.seq (.ops [
    ⟨(some 6), .box, [.tmp 2], none⟩,
    ⟨(some 8), .mov, [.const (.slice none 0 0)], none⟩] false)
  (.seq (.ops [
    ⟨(some 9), .nilOwn 38 6, [], none⟩] false)
  (.seq (.ops [
    ⟨(some 10), .mov, [.tmp 9], none⟩,
    ⟨(some 11), .mov, [.tmp 0], none⟩,
    ⟨(some 12), .append 38 6 48, [.tmp 10, .tmp 11], none⟩,
    ⟨(some 9), .mov, [.tmp 12], none⟩] false)
  (.seq (.ops [
    ⟨(some 13), .mov, [.tmp 3], none⟩,
    ⟨(some 14), .faddr 5, [.tmp 6], none⟩,
    ⟨none, .store 1, [.tmp 14, .tmp 13], none⟩] false)
  (.seq (.ops [
    ⟨(some 15), .mov, [.tmp 9], none⟩,
    ⟨(some 16), .mov, [.tmp 1], none⟩,
    ⟨(some 17), .load 6 true, [.tmp 6], none⟩,
    ⟨(some 18), .idx 6, [.tmp 15, .tmp 16], none⟩,
    ⟨none, .store 6, [.tmp 18, .tmp 17], none⟩] false)
  (.seq (.ops [
    ⟨(some 19), .mov, [.tmp 9], none⟩,
    ⟨(some 8), .mov, [.tmp 19], none⟩] false)
  .ret))))))⟩
theorem with_Low : lowF Try.prog { owns := [(9, 38)] } Try.f64 = some with_Ir := by kernel_rfl
def with_S : Spec := spec (List Inc × Nat × Inc × Int) (fun p => [L 6 (p.1.map encI), I p.2.1, aI p.2.2.1, I p.2.2.2]) (fun p => p.1.length ≤ 64 ∧ p.2.1 < p.1.length) (fun p => L 6 ((p.1.set p.2.1 { p.2.2.1 with since := p.2.2.2 }).map encI))
theorem with_V : fnV Try.prog with_Ir with_S := by
  intro ⟨(l : List Inc), (k : Nat), (y : Inc), (t : Int)⟩ hx0
  obtain ⟨hx0, hkl⟩ : l.length ≤ 64 ∧ k < l.length := hx0
  have hl : (l.map encI).length = l.length := List.length_map ..
  obtain ⟨x, hx⟩ := getElem_some hkl
  show vc _ _ _ _ ⟨argEnv 0 [L 6 (l.map encI), I (k : Nat), aI y, I t], [], 0⟩
  repeat' ((conv => whnf); first | (refine ⟨fun h => ?_, fun h => ?_⟩ <;> try (exfalso; first | omega | exact absurd h (by decide) | exact h rfl | exact absurd (show true = false from h) (by decide) | exact absurd (show false = true from h) (by decide))) | (refine ⟨⟨by simp; omega, by simp; omega⟩, ?_⟩) | (refine ⟨by omega, fun r hrr => ?_⟩; first | ((have hre : r = encI x := by (first | exact get_row hrr hx | fail)); subst hre)) | (refine ⟨⟨by omega, by simp; omega⟩, ?_⟩) | (refine ⟨by simp; omega, fun r hrr => ?_⟩; (have hre : r = encI x := by (first | exact get_row hrr hx | fail)); subst hre) | fail | fail)
  refine ⟨[], rfl, trivial, ?_⟩
  show leR [L 6 ((l.map encI).set ((k : Nat) : Int).toNat (encI { y with since := t }))] (L 6 ((l.set k { y with since := t }).map encI))
  rw [Int.toNat_natCast, ← List.map_set]
  exact rfl
theorem with__h : Holds Try.prog 64 with_S := holds_of mix Try.func64 with_Low (fun _ => rfl) with_V

/-! skiarea/skiarearef57.Judge -/
def rjudgeIr : IFn := ⟨43, [.tmp 8, .tmp 9],
  (.seq (.ops [
    ⟨(some 8), .mov, [.const (.slice none 0 0)], none⟩,
    ⟨(some 9), .mov, [.const (.int .i64 0)], none⟩] false)
  (.seq (.ops [
    ⟨(some 14), .mov, [.tmp 0], none⟩,
    ⟨(some 15), .mov, [.tmp 1], none⟩,
    ⟨(some 16), .mov, [.tmp 3], none⟩,
    ⟨(some 17), .call 63, [.tmp 14, .tmp 15, .tmp 16], none⟩,
    ⟨(some 13), .mov, [.tmp 17], none⟩,
    ⟨(some 18), .extract 0, [.tmp 13], none⟩,
    ⟨(some 19), .extract 1, [.tmp 13], none⟩,
    ⟨(some 10), .mov, [.tmp 18], none⟩,
    ⟨(some 11), .mov, [.tmp 19], none⟩] false)
  (.seq (.seq (.ops [
    ⟨(some 20), .mov, [.tmp 11], none⟩,
    ⟨(some 21), .cmp .neq, [.tmp 20, .const (.int .i64 0)], none⟩] false)
  (.cond (.tmp 21)
    (.seq (.ops [
      ⟨(some 22), .mov, [.tmp 11], none⟩,
      ⟨(some 8), .mov, [.const (.slice none 0 0)], none⟩,
      ⟨(some 9), .mov, [.tmp 22], none⟩] false)
    .ret)
    .skip))
  (.seq (.ops [
    ⟨(some 23), .mov, [.tmp 0], none⟩,
    ⟨(some 24), .mov, [.tmp 10], none⟩,
    ⟨(some 25), .idx 6, [.tmp 23, .tmp 24], none⟩,
    ⟨(some 26), .load 6 true, [.tmp 25], none⟩,
    ⟨(some 12), .alloc [.int .i64 0, .int .i64 0, .int .i64 0, .int .i64 0, .int .i64 0, .int .i64 0], [], none⟩,
    ⟨none, .store 6, [.tmp 12, .tmp 26], none⟩] false)
  (.seq (.seq (.ops [
    ⟨(some 27), .faddr 3, [.tmp 12], none⟩,
    ⟨(some 28), .load 1 false, [.tmp 27], none⟩,
    ⟨(some 29), .cmp .eql, [.tmp 28, .const (.int .i64 5)], none⟩] false)
  (.cond (.tmp 29)
    (.seq (.ops [
      ⟨(some 8), .mov, [.const (.slice none 0 0)], none⟩,
      ⟨(some 9), .mov, [.const (.int .i64 10)], none⟩] false)
    .ret)
    .skip))
  (.seq (.seq (.ops [
    ⟨(some 30), .mov, [.tmp 2], none⟩,
    ⟨(some 31), .cmp .lss, [.tmp 30, .const (.int .i64 1)], none⟩,
    ⟨(some 32), .mov, [.tmp 31], none⟩,
    ⟨(some 33), .mov, [.tmp 2], (some (32, false))⟩,
    ⟨(some 34), .cmp .gtr, [.tmp 33, .const (.int .i64 4)], (some (32, false))⟩,
    ⟨(some 35), .pick, [.tmp 32, .const (.bool true), .tmp 34], none⟩] false)
  (.cond (.tmp 35)
    (.seq (.ops [
      ⟨(some 8), .mov, [.const (.slice none 0 0)], none⟩,
      ⟨(some 9), .mov, [.const (.int .i64 2)], none⟩] false)
    .ret)
    .skip))
  (.seq (.ops [
    ⟨(some 36), .mov, [.tmp 2], none⟩,
    ⟨(some 37), .faddr 2, [.tmp 12], none⟩,
    ⟨none, .store 1, [.tmp 37, .tmp 36], none⟩] false)
  (.seq (.ops [
    ⟨(some 38), .mov, [.tmp 0], none⟩,
    ⟨(some 39), .mov, [.tmp 10], none⟩,
    ⟨(some 40), .load 6 true, [.tmp 12], none⟩,
    ⟨(some 41), .mov, [.tmp 3], none⟩,
    ⟨(some 42), .call 64, [.tmp 38, .tmp 39, .tmp 40, .tmp 41], none⟩,
    ⟨(some 8), .mov, [.tmp 42], none⟩,
    ⟨(some 9), .mov, [.const (.int .i64 0)], none⟩] false)
  .ret))))))))⟩
theorem rjudgeLow : lowF Try.prog {} Try.f35 = some rjudgeIr := by kernel_rfl
def rjudgeS : Spec := spec (List Inc × Int × Int × Int) (fun p => [L 6 (p.1.map encI), I p.2.1, I p.2.2.1, I p.2.2.2]) (fun p => rightI p.1 = 0) (fun p => resT (changeF (judgeF p.2.2.1) p.1 p.2.1 p.2.2.2))
theorem rjudgeV : fnV Try.prog rjudgeIr rjudgeS := by
  intro ⟨(l : List Inc), (id : Int), (tri : Int), (t : Int)⟩ hr0
  replace hr0 : rightI l = 0 := hr0
  have hx0 := len_of hr0
  have hl : (l.map encI).length = l.length := List.length_map ..
  show vc _ _ _ _ ⟨argEnv 0 [L 6 (l.map encI), I id, I tri, I t], [], 0⟩
  rcases ix_cases (idB id) l with ⟨q1, _⟩ | ⟨k, x, q1, hx, _, _, _⟩
  · repeat' ((conv => whnf); first | (refine ⟨fun h => ?_, fun h => ?_⟩ <;> try (exfalso; first | omega | exact absurd h (by decide) | exact h rfl | exact absurd (show true = false from h) (by decide) | exact absurd (show false = true from h) (by decide))) | (refine ⟨_, common_h, (l, id, t), hx0, leVs_of_eq rfl, .inl rfl, rfl, ?_⟩; show norm (.tup [I (comF l id t).1, I (comF l id t).2]) _; rw [show comF l id t = (0, 8) from if_pos (by omega)]) | fail | fail)
    all_goals (refine ⟨[], rfl, trivial, ?_⟩; show leR [.c .nil, I _] (resT _); rw [change_no q1]; exact ⟨rfl, rfl, trivial⟩)
  have hkl := (List.getElem?_eq_some_iff.1 hx).1
  have hD := com_at (t := t) q1 hx
  have hC : changeF (judgeF tri) l id t = chg (judgeF tri) l k t := change_at q1
  by_cases hlt : t < x.since ∨ 20000000 < t
  · rw [if_pos hlt] at hD
    repeat' ((conv => whnf); first | (refine ⟨fun h => ?_, fun h => ?_⟩ <;> try (exfalso; first | omega | exact absurd h (by decide) | exact h rfl | exact absurd (show true = false from h) (by decide) | exact absurd (show false = true from h) (by decide))) | (refine ⟨_, common_h, (l, id, t), hx0, leVs_of_eq rfl, .inl rfl, rfl, ?_⟩; show norm (.tup [I (comF l id t).1, I (comF l id t).2]) _; rw [hD]) | fail | fail)
    all_goals (refine ⟨[], rfl, trivial, ?_⟩; show leR [.c .nil, I _] (resT _); rw [hC, chg_late hx hlt]; exact ⟨rfl, rfl, trivial⟩)
  rw [if_neg hlt] at hD
  by_cases h1 : x.st = 5
  · repeat' ((conv => whnf); first | (refine ⟨fun h => ?_, fun h => ?_⟩ <;> try (exfalso; first | omega | exact absurd h (by decide) | exact h rfl | exact absurd (show true = false from h) (by decide) | exact absurd (show false = true from h) (by decide))) | (refine ⟨_, common_h, (l, id, t), hx0, leVs_of_eq rfl, .inl rfl, rfl, ?_⟩; show norm (.tup [I (comF l id t).1, I (comF l id t).2]) _; rw [hD]) | (refine ⟨by omega, fun r hrr => ?_⟩; first | ((have hre : r = encI x := by (first | exact get_row hrr hx | fail)); subst hre)) | fail | fail)
    all_goals (refine ⟨[], rfl, trivial, ?_⟩; show leR [.c .nil, I _] (resT _); rw [hC, chg_err hx hlt (if_pos h1) (by decide)]; exact ⟨rfl, rfl, trivial⟩)
  by_cases h2 : tri < 1 ∨ 4 < tri
  · repeat' ((conv => whnf); first | (refine ⟨fun h => ?_, fun h => ?_⟩ <;> try (exfalso; first | omega | exact absurd h (by decide) | exact h rfl | exact absurd (show true = false from h) (by decide) | exact absurd (show false = true from h) (by decide))) | (refine ⟨_, common_h, (l, id, t), hx0, leVs_of_eq rfl, .inl rfl, rfl, ?_⟩; show norm (.tup [I (comF l id t).1, I (comF l id t).2]) _; rw [hD]) | (refine ⟨by omega, fun r hrr => ?_⟩; first | ((have hre : r = encI x := by (first | exact get_row hrr hx | fail)); subst hre)) | fail | fail)
    all_goals (refine ⟨[], rfl, trivial, ?_⟩; show leR [.c .nil, I _] (resT _); rw [hC, chg_err hx hlt ((if_neg h1).trans (if_pos h2)) (by decide)]; exact ⟨rfl, rfl, trivial⟩)
  · repeat' ((conv => whnf); first | (refine ⟨fun h => ?_, fun h => ?_⟩ <;> try (exfalso; first | omega | exact absurd h (by decide) | exact h rfl | exact absurd (show true = false from h) (by decide) | exact absurd (show false = true from h) (by decide))) | (refine ⟨_, common_h, (l, id, t), hx0, leVs_of_eq rfl, .inl rfl, rfl, ?_⟩; show norm (.tup [I (comF l id t).1, I (comF l id t).2]) _; rw [hD]) | (refine ⟨by omega, fun r hrr => ?_⟩; first | ((have hre : r = encI x := by (first | exact get_row hrr hx | fail)); subst hre)) | (refine ⟨_, with__h, (l, k, { x with tri := tri }, t), ⟨hx0, hkl⟩, leVs_of_eq rfl, .inl rfl, rfl, ?_⟩; show norm (L 6 ((l.set k { ({ x with tri := tri } : Inc) with since := t }).map encI)) _) | fail | fail)
    all_goals (refine ⟨[], rfl, trivial, ?_⟩; show leR [L 6 ((l.set k { ({ x with tri := tri } : Inc) with since := t }).map encI), I 0] (resT (changeF (judgeF tri) l id t)); rw [hC, chg_ok hx hlt (y := { x with tri := tri }) ((if_neg h1).trans (if_neg h2))]; exact ⟨rfl, rfl, trivial⟩)
theorem rjudge_h : Holds Try.prog 35 rjudgeS := holds_of mix Try.func35 rjudgeLow (fun _ => rfl) rjudgeV

/-! skiarea/skiarearef57.Go -/
def rgoIr : IFn := ⟨58, [.tmp 8, .tmp 9],
  (.seq (.ops [
    ⟨(some 8), .mov, [.const (.slice none 0 0)], none⟩,
    ⟨(some 9), .mov, [.const (.int .i64 0)], none⟩] false)
  (.seq (.ops [
    ⟨(some 15), .mov, [.tmp 0], none⟩,
    ⟨(some 16), .mov, [.tmp 1], none⟩,
    ⟨(some 17), .mov, [.tmp 3], none⟩,
    ⟨(some 18), .call 63, [.tmp 15, .tmp 16, .tmp 17], none⟩,
    ⟨(some 14), .mov, [.tmp 18], none⟩,
    ⟨(some 19), .extract 0, [.tmp 14], none⟩,
    ⟨(some 20), .extract 1, [.tmp 14], none⟩,
    ⟨(some 10), .mov, [.tmp 19], none⟩,
    ⟨(some 11), .mov, [.tmp 20], none⟩] false)
  (.seq (.seq (.ops [
    ⟨(some 21), .mov, [.tmp 11], none⟩,
    ⟨(some 22), .cmp .neq, [.tmp 21, .const (.int .i64 0)], none⟩] false)
  (.cond (.tmp 22)
    (.seq (.ops [
      ⟨(some 23), .mov, [.tmp 11], none⟩,
      ⟨(some 8), .mov, [.const (.slice none 0 0)], none⟩,
      ⟨(some 9), .mov, [.tmp 23], none⟩] false)
    .ret)
    .skip))
  (.seq (.ops [
    ⟨(some 24), .mov, [.tmp 0], none⟩,
    ⟨(some 25), .mov, [.tmp 10], none⟩,
    ⟨(some 26), .idx 6, [.tmp 24, .tmp 25], none⟩,
    ⟨(some 27), .load 6 true, [.tmp 26], none⟩,
    ⟨(some 12), .alloc [.int .i64 0, .int .i64 0, .int .i64 0, .int .i64 0, .int .i64 0, .int .i64 0], [], none⟩,
    ⟨none, .store 6, [.tmp 12, .tmp 27], none⟩] false)
  (.seq (.seq (.ops [
    ⟨(some 28), .faddr 3, [.tmp 12], none⟩,
    ⟨(some 29), .load 1 false, [.tmp 28], none⟩,
    ⟨(some 30), .cmp .neq, [.tmp 29, .const (.int .i64 1)], none⟩] false)
  (.cond (.tmp 30)
    (.seq (.ops [
      ⟨(some 8), .mov, [.const (.slice none 0 0)], none⟩,
      ⟨(some 9), .mov, [.const (.int .i64 10)], none⟩] false)
    .ret)
    .skip))
  (.seq (.seq (.ops [
    ⟨(some 31), .mov, [.tmp 2], none⟩,
    ⟨(some 32), .cmp .lss, [.tmp 31, .const (.int .i64 1)], none⟩,
    ⟨(some 33), .mov, [.tmp 32], none⟩,
    ⟨(some 34), .mov, [.tmp 2], (some (33, false))⟩,
    ⟨(some 35), .cmp .gtr, [.tmp 34, .const (.int .i64 9999)], (some (33, false))⟩,
    ⟨(some 36), .pick, [.tmp 33, .const (.bool true), .tmp 35], none⟩] false)
  (.cond (.tmp 36)
    (.seq (.ops [
      ⟨(some 8), .mov, [.const (.slice none 0 0)], none⟩,
      ⟨(some 9), .mov, [.const (.int .i64 2)], none⟩] false)
    .ret)
    .skip))
  (.seq (.seq (.ops [
    ⟨(some 13), .mov, [.const (.int .i64 0)], none⟩] false)
  (.block 0
    (.loop
      (.seq (.seq (.ops [
        ⟨(some 37), .mov, [.tmp 13], none⟩,
        ⟨(some 38), .mov, [.tmp 0], none⟩,
        ⟨(some 39), .len, [.tmp 38], none⟩,
        ⟨(some 40), .cmp .lss, [.tmp 37, .tmp 39], none⟩] false)
      (.cond (.tmp 40)
        .skip
        (.exit 0)))
      (.seq (.block 1
        (.seq (.ops [
          ⟨(some 43), .mov, [.tmp 0], none⟩,
          ⟨(some 44), .mov, [.tmp 13], none⟩,
          ⟨(some 45), .idx 6, [.tmp 43, .tmp 44], none⟩,
          ⟨(some 46), .faddr 4, [.tmp 45], none⟩,
          ⟨(some 47), .load 1 false, [.tmp 46], none⟩,
          ⟨(some 48), .mov, [.tmp 2], none⟩,
          ⟨(some 49), .cmp .eql, [.tmp 47, .tmp 48], none⟩] false)
        (.cond (.tmp 49)
          (.seq (.ops [
            ⟨(some 8), .mov, [.const (.slice none 0 0)], none⟩,
            ⟨(some 9), .mov, [.const (.int .i64 15)], none⟩] false)
          .ret)
          .skip)))
      (.ops [
        ⟨(some 41), .mov, [.tmp 13], none⟩,
        ⟨(some 42), .bin .add .i64 false, [.tmp 41, .const (.int .i64 1)], none⟩,
        ⟨(some 13), .mov, [.tmp 42], none⟩] false))))))
  (.seq (.ops [
    ⟨(some 50), .faddr 3, [.tmp 12], none⟩,
    ⟨none, .store 1, [.tmp 50, .const (.int .i64 2)], none⟩] false)
  (.seq (.ops [
    ⟨(some 51), .mov, [.tmp 2], none⟩,
    ⟨(some 52), .faddr 4, [.tmp 12], none⟩,
    ⟨none, .store 1, [.tmp 52, .tmp 51], none⟩] false)
  (.seq (.ops [
    ⟨(some 53), .mov, [.tmp 0], none⟩,
    ⟨(some 54), .mov, [.tmp 10], none⟩,
    ⟨(some 55), .load 6 true, [.tmp 12], none⟩,
    ⟨(some 56), .mov, [.tmp 3], none⟩,
    ⟨(some 57), .call 64, [.tmp 53, .tmp 54, .tmp 55, .tmp 56], none⟩,
    ⟨(some 8), .mov, [.tmp 57], none⟩,
    ⟨(some 9), .mov, [.const (.int .i64 0)], none⟩] false)
  .ret))))))))))⟩
theorem rgoLow : lowF Try.prog {} Try.f36 = some rgoIr := by kernel_rfl
def rgoS : Spec := spec (List Inc × Int × Int × Int) (fun p => [L 6 (p.1.map encI), I p.2.1, I p.2.2.1, I p.2.2.2]) (fun p => rightI p.1 = 0) (fun p => resT (changeF (sendF p.1 p.2.2.1) p.1 p.2.1 p.2.2.2))
theorem rgoV : fnV Try.prog rgoIr rgoS := by
  intro ⟨(l : List Inc), (id : Int), (team : Int), (t : Int)⟩ hr0
  replace hr0 : rightI l = 0 := hr0
  have hx0 := len_of hr0
  have hl : (l.map encI).length = l.length := List.length_map ..
  show vc _ _ _ _ ⟨argEnv 0 [L 6 (l.map encI), I id, I team, I t], [], 0⟩
  rcases ix_cases (idB id) l with ⟨q1, _⟩ | ⟨k, x, q1, hx, _, _, _⟩
  · repeat' ((conv => whnf); first | (refine ⟨fun h => ?_, fun h => ?_⟩ <;> try (exfalso; first | omega | exact absurd h (by decide) | exact h rfl | exact absurd (show true = false from h) (by decide) | exact absurd (show false = true from h) (by decide))) | (refine ⟨_, common_h, (l, id, t), hx0, leVs_of_eq rfl, .inl rfl, rfl, ?_⟩; show norm (.tup [I (comF l id t).1, I (comF l id t).2]) _; rw [show comF l id t = (0, 8) from if_pos (by omega)]) | fail | fail)
    all_goals (refine ⟨[], rfl, trivial, ?_⟩; show leR [.c .nil, I _] (resT _); rw [change_no q1]; exact ⟨rfl, rfl, trivial⟩)
  have hkl := (List.getElem?_eq_some_iff.1 hx).1
  have hD := com_at (t := t) q1 hx
  have hC : changeF (sendF l team) l id t = chg (sendF l team) l k t := change_at q1
  by_cases hlt : t < x.since ∨ 20000000 < t
  · rw [if_pos hlt] at hD
    repeat' ((conv => whnf); first | (refine ⟨fun h => ?_, fun h => ?_⟩ <;> try (exfalso; first | omega | exact absurd h (by decide) | exact h rfl | exact absurd (show true = false from h) (by decide) | exact absurd (show false = true from h) (by decide))) | (refine ⟨_, common_h, (l, id, t), hx0, leVs_of_eq rfl, .inl rfl, rfl, ?_⟩; show norm (.tup [I (comF l id t).1, I (comF l id t).2]) _; rw [hD]) | fail | fail)
    all_goals (refine ⟨[], rfl, trivial, ?_⟩; show leR [.c .nil, I _] (resT _); rw [hC, chg_late hx hlt]; exact ⟨rfl, rfl, trivial⟩)
  rw [if_neg hlt] at hD
  by_cases h1 : x.st = 1
  case neg =>
    repeat' ((conv => whnf); first | (refine ⟨fun h => ?_, fun h => ?_⟩ <;> try (exfalso; first | omega | exact absurd h (by decide) | exact h rfl | exact absurd (show true = false from h) (by decide) | exact absurd (show false = true from h) (by decide))) | (refine ⟨_, common_h, (l, id, t), hx0, leVs_of_eq rfl, .inl rfl, rfl, ?_⟩; show norm (.tup [I (comF l id t).1, I (comF l id t).2]) _; rw [hD]) | (refine ⟨by omega, fun r hrr => ?_⟩; first | ((have hre : r = encI x := by (first | exact get_row hrr hx | fail)); subst hre)) | fail | fail)
    all_goals (refine ⟨[], rfl, trivial, ?_⟩; show leR [.c .nil, I _] (resT _); rw [hC, chg_err hx hlt (if_pos h1) (by decide)]; exact ⟨rfl, rfl, trivial⟩)
  by_cases h2 : team < 1 ∨ 9999 < team
  · repeat' ((conv => whnf); first | (refine ⟨fun h => ?_, fun h => ?_⟩ <;> try (exfalso; first | omega | exact absurd h (by decide) | exact h rfl | exact absurd (show true = false from h) (by decide) | exact absurd (show false = true from h) (by decide))) | (refine ⟨_, common_h, (l, id, t), hx0, leVs_of_eq rfl, .inl rfl, rfl, ?_⟩; show norm (.tup [I (comF l id t).1, I (comF l id t).2]) _; rw [hD]) | (refine ⟨by omega, fun r hrr => ?_⟩; first | ((have hre : r = encI x := by (first | exact get_row hrr hx | fail)); subst hre)) | fail | fail)
    all_goals (refine ⟨[], rfl, trivial, ?_⟩; show leR [.c .nil, I _] (resT _); rw [hC, chg_err hx hlt ((if_neg (Decidable.not_not.2 h1)).trans (if_pos h2)) (by decide)]; exact ⟨rfl, rfl, trivial⟩)
  repeat' ((conv => whnf); first | (refine ⟨fun h => ?_, fun h => ?_⟩ <;> try (exfalso; first | omega | exact absurd h (by decide) | exact h rfl | exact absurd (show true = false from h) (by decide) | exact absurd (show false = true from h) (by decide))) | (refine ⟨_, common_h, (l, id, t), hx0, leVs_of_eq rfl, .inl rfl, rfl, ?_⟩; show norm (.tup [I (comF l id t).1, I (comF l id t).2]) _; rw [hD]) | (refine ⟨by omega, fun r hrr => ?_⟩; first | ((have hre : r = encI x := by (first | exact get_row hrr hx | fail)); subst hre)) | fail | fail)
  refine ⟨Nat, fun xq => ⟨[(0, L 6 (l.map encI)), (2, I team), (3, I t), (10, I (k : Nat)), (12, .bp 0 0), (13, I xq)], [(0, .box ((encI x).map .c))], 1⟩, fun xq => xq ≤ l.length ∧ ∀ y ∈ l.take xq, teamB team y = false, fun xq => l.length - xq, ⟨0, ?_, [], ⟨⟨rfl, rfl⟩, ⟨⟨rfl, rfl⟩, ⟨⟨rfl, rfl⟩, ⟨⟨rfl, rfl⟩, ⟨⟨rfl, rfl⟩, ⟨⟨rfl, rfl⟩, trivial⟩⟩⟩⟩⟩⟩, ⟨⟨rfl, rfl, rfl⟩, trivial⟩, rfl, rfl, rfl⟩, ?_⟩
  · (try dsimp only); exact ⟨Nat.zero_le _, by simp⟩
  rintro j hk
  obtain ⟨hj, hn⟩ : j ≤ l.length ∧ ∀ y ∈ l.take j, teamB team y = false := hk
  (try dsimp only)
  by_cases hjl : j < l.length
  · obtain ⟨y, hy⟩ := getElem_some hjl
    by_cases hyt : y.team = team
    · have h3 : l.any (teamB team) = true := List.any_eq_true.2 ⟨y, List.mem_of_getElem? hy, decide_eq_true hyt⟩
      repeat' ((conv => whnf); first | (refine ⟨fun h => ?_, fun h => ?_⟩ <;> try (exfalso; first | omega | exact absurd h (by decide) | exact h rfl | exact absurd (show true = false from h) (by decide) | exact absurd (show false = true from h) (by decide))) | (refine ⟨by omega, fun r hrr => ?_⟩; first | ((have hre : r = encI y := by (first | exact get_row hrr hy | fail)); subst hre)) | fail | fail)
      all_goals (refine ⟨[], rfl, trivial, ?_⟩; show leR [.c .nil, I _] (resT _); rw [hC, chg_err hx hlt ((if_neg (Decidable.not_not.2 h1)).trans ((if_neg h2).trans (if_pos h3))) (by decide)]; exact ⟨rfl, rfl, trivial⟩)
    · repeat' ((conv => whnf); first | (refine ⟨fun h => ?_, fun h => ?_⟩ <;> try (exfalso; first | omega | exact absurd h (by decide) | exact h rfl | exact absurd (show true = false from h) (by decide) | exact absurd (show false = true from h) (by decide))) | (refine ⟨by omega, fun r hrr => ?_⟩; first | ((have hre : r = encI y := by (first | exact get_row hrr hy | fail)); subst hre)) | (refine ⟨j + 1, ⟨?_, by (try dsimp only); omega⟩, [], ⟨⟨rfl, rfl⟩, ⟨⟨rfl, rfl⟩, ⟨⟨rfl, rfl⟩, ⟨⟨rfl, rfl⟩, ⟨⟨rfl, rfl⟩, ⟨⟨rfl, rfl⟩, trivial⟩⟩⟩⟩⟩⟩, ⟨⟨rfl, rfl, rfl⟩, trivial⟩, rfl, rfl, rfl⟩; (try dsimp only); exact ⟨by omega, first_step hy hn (decide_eq_false hyt)⟩) | refine ⟨⟨by omega, by omega⟩, ?_⟩ | fail)
  · rw [take_end hjl] at hn
    have h3 := any_no hn
    repeat' ((conv => whnf); first | (refine ⟨fun h => ?_, fun h => ?_⟩ <;> try (exfalso; first | omega | exact absurd h (by decide) | exact h rfl | exact absurd (show true = false from h) (by decide) | exact absurd (show false = true from h) (by decide))) | (refine ⟨_, with__h, (l, k, { x with st := 2, team := team }, t), ⟨hx0, hkl⟩, leVs_of_eq rfl, .inl rfl, rfl, ?_⟩; show norm (L 6 ((l.set k { ({ x with st := 2, team := team } : Inc) with since := t }).map encI)) _) | fail | fail)
    all_goals (refine ⟨[], rfl, trivial, ?_⟩; show leR [L 6 ((l.set k { ({ x with st := 2, team := team } : Inc) with since := t }).map encI), I 0] (resT (changeF (sendF l team) l id t)); rw [hC, chg_ok hx hlt (y := { x with st := 2, team := team }) ((if_neg (Decidable.not_not.2 h1)).trans ((if_neg h2).trans (if_neg (by rw [h3]; decide))))]; exact ⟨rfl, rfl, trivial⟩)
theorem rgo_h : Holds Try.prog 36 rgoS := holds_of mix Try.func36 rgoLow (fun _ => rfl) rgoV

/-! skiarea/skiarearef57.Move -/
def rmoveIr : IFn := ⟨48, [.tmp 6, .tmp 7],
  (.seq (.ops [
    ⟨(some 6), .mov, [.const (.slice none 0 0)], none⟩,
    ⟨(some 7), .mov, [.const (.int .i64 0)], none⟩] false)
  (.seq (.ops [
    ⟨(some 12), .mov, [.tmp 0], none⟩,
    ⟨(some 13), .mov, [.tmp 1], none⟩,
    ⟨(some 14), .mov, [.tmp 2], none⟩,
    ⟨(some 15), .call 63, [.tmp 12, .tmp 13, .tmp 14], none⟩,
    ⟨(some 11), .mov, [.tmp 15], none⟩,
    ⟨(some 16), .extract 0, [.tmp 11], none⟩,
    ⟨(some 17), .extract 1, [.tmp 11], none⟩,
    ⟨(some 8), .mov, [.tmp 16], none⟩,
    ⟨(some 9), .mov, [.tmp 17], none⟩] false)
  (.seq (.seq (.ops [
    ⟨(some 18), .mov, [.tmp 9], none⟩,
    ⟨(some 19), .cmp .neq, [.tmp 18, .const (.int .i64 0)], none⟩] false)
  (.cond (.tmp 19)
    (.seq (.ops [
      ⟨(some 20), .mov, [.tmp 9], none⟩,
      ⟨(some 6), .mov, [.const (.slice none 0 0)], none⟩,
      ⟨(some 7), .mov, [.tmp 20], none⟩] false)
    .ret)
    .skip))
  (.seq (.ops [
    ⟨(some 21), .mov, [.tmp 0], none⟩,
    ⟨(some 22), .mov, [.tmp 8], none⟩,
    ⟨(some 23), .idx 6, [.tmp 21, .tmp 22], none⟩,
    ⟨(some 24), .load 6 true, [.tmp 23], none⟩,
    ⟨(some 10), .alloc [.int .i64 0, .int .i64 0, .int .i64 0, .int .i64 0, .int .i64 0, .int .i64 0], [], none⟩,
    ⟨none, .store 6, [.tmp 10, .tmp 24], none⟩] false)
  (.seq (.seq (.ops [
    ⟨(some 25), .load 6 true, [.tmp 10], none⟩,
    ⟨(some 26), .call 33, [.tmp 25], none⟩] false)
  (.cond (.tmp 26)
    (.seq (.ops [
      ⟨(some 6), .mov, [.const (.slice none 0 0)], none⟩,
      ⟨(some 7), .mov, [.const (.int .i64 10)], none⟩] false)
    .ret)
    .skip))
  (.seq (.seq (.ops [
    ⟨(some 27), .faddr 3, [.tmp 10], none⟩,
    ⟨(some 28), .load 1 false, [.tmp 27], none⟩,
    ⟨(some 29), .cmp .eql, [.tmp 28, .const (.int .i64 3)], none⟩,
    ⟨(some 30), .mov, [.tmp 29], none⟩,
    ⟨(some 31), .faddr 2, [.tmp 10], (some (30, true))⟩,
    ⟨(some 32), .load 1 false, [.tmp 31], (some (30, true))⟩,
    ⟨(some 33), .cmp .eql, [.tmp 32, .const (.int .i64 0)], (some (30, true))⟩,
    ⟨(some 34), .pick, [.tmp 30, .tmp 33, .const (.bool false)], none⟩] false)
  (.cond (.tmp 34)
    (.seq (.ops [
      ⟨(some 6), .mov, [.const (.slice none 0 0)], none⟩,
      ⟨(some 7), .mov, [.const (.int .i64 17)], none⟩] false)
    .ret)
    .skip))
  (.seq (.ops [
    ⟨(some 35), .faddr 3, [.tmp 10], none⟩,
    ⟨(some 36), .load 1 false, [.tmp 35], none⟩,
    ⟨(some 37), .bin .add .i64 false, [.tmp 36, .const (.int .i64 1)], none⟩,
    ⟨(some 38), .faddr 3, [.tmp 10], none⟩,
    ⟨none, .store 1, [.tmp 38, .tmp 37], none⟩] false)
  (.seq (.seq (.ops [
    ⟨(some 39), .faddr 3, [.tmp 10], none⟩,
    ⟨(some 40), .load 1 false, [.tmp 39], none⟩,
    ⟨(some 41), .cmp .eql, [.tmp 40, .const (.int .i64 5)], none⟩] false)
  (.cond (.tmp 41)
    (.ops [
      ⟨(some 42), .faddr 4, [.tmp 10], none⟩,
      ⟨none, .store 1, [.tmp 42, .const (.int .i64 0)], none⟩] false)
    .skip))
  (.seq (.ops [
    ⟨(some 43), .mov, [.tmp 0], none⟩,
    ⟨(some 44), .mov, [.tmp 8], none⟩,
    ⟨(some 45), .load 6 true, [.tmp 10], none⟩,
    ⟨(some 46), .mov, [.tmp 2], none⟩,
    ⟨(some 47), .call 64, [.tmp 43, .tmp 44, .tmp 45, .tmp 46], none⟩,
    ⟨(some 6), .mov, [.tmp 47], none⟩,
    ⟨(some 7), .mov, [.const (.int .i64 0)], none⟩] false)
  .ret)))))))))⟩
theorem rmoveLow : lowF Try.prog {} Try.f37 = some rmoveIr := by kernel_rfl
def rmoveS : Spec := spec (List Inc × Int × Int) (fun p => [L 6 (p.1.map encI), I p.2.1, I p.2.2]) (fun p => rightI p.1 = 0) (fun p => resT (changeF (moveF) p.1 p.2.1 p.2.2))
theorem rmoveV : fnV Try.prog rmoveIr rmoveS := by
  intro ⟨(l : List Inc), (id : Int), (t : Int)⟩ hr0
  replace hr0 : rightI l = 0 := hr0
  have hx0 := len_of hr0
  have hl : (l.map encI).length = l.length := List.length_map ..
  show vc _ _ _ _ ⟨argEnv 0 [L 6 (l.map encI), I id, I t], [], 0⟩
  rcases ix_cases (idB id) l with ⟨q1, _⟩ | ⟨k, x, q1, hx, _, _, _⟩
  · repeat' ((conv => whnf); first | (refine ⟨fun h => ?_, fun h => ?_⟩ <;> try (exfalso; first | omega | exact absurd h (by decide) | exact h rfl | exact absurd (show true = false from h) (by decide) | exact absurd (show false = true from h) (by decide))) | (refine ⟨_, common_h, (l, id, t), hx0, leVs_of_eq rfl, .inl rfl, rfl, ?_⟩; show norm (.tup [I (comF l id t).1, I (comF l id t).2]) _; rw [show comF l id t = (0, 8) from if_pos (by omega)]) | fail | fail)
    all_goals (refine ⟨[], rfl, trivial, ?_⟩; show leR [.c .nil, I _] (resT _); rw [change_no q1]; exact ⟨rfl, rfl, trivial⟩)
  have hkl := (List.getElem?_eq_some_iff.1 hx).1
  have hD := com_at (t := t) q1 hx
  have hC : changeF (moveF) l id t = chg (moveF) l k t := change_at q1
  by_cases hlt : t < x.since ∨ 20000000 < t
  · rw [if_pos hlt] at hD
    repeat' ((conv => whnf); first | (refine ⟨fun h => ?_, fun h => ?_⟩ <;> try (exfalso; first | omega | exact absurd h (by decide) | exact h rfl | exact absurd (show true = false from h) (by decide) | exact absurd (show false = true from h) (by decide))) | (refine ⟨_, common_h, (l, id, t), hx0, leVs_of_eq rfl, .inl rfl, rfl, ?_⟩; show norm (.tup [I (comF l id t).1, I (comF l id t).2]) _; rw [hD]) | fail | fail)
    all_goals (refine ⟨[], rfl, trivial, ?_⟩; show leR [.c .nil, I _] (resT _); rw [hC, chg_late hx hlt]; exact ⟨rfl, rfl, trivial⟩)
  rw [if_neg hlt] at hD
  obtain ⟨hP, _, _, _⟩ := ic_of hr0 hx
  have hst : 1 ≤ x.st ∧ x.st ≤ 5 := hP.2.2.2.1
  by_cases h1 : x.st = 2
  · have d : decide (freeP x) = false := decide_eq_false (show ¬ (x.st = 1 ∨ x.st = 5) by omega)
    repeat' ((conv => whnf); first | (refine ⟨fun h => ?_, fun h => ?_⟩ <;> try (exfalso; first | omega | exact absurd h (by decide) | exact h rfl | exact absurd (show true = false from h) (by decide) | exact absurd (show false = true from h) (by decide))) | (refine ⟨_, common_h, (l, id, t), hx0, leVs_of_eq rfl, .inl rfl, rfl, ?_⟩; show norm (.tup [I (comF l id t).1, I (comF l id t).2]) _; rw [hD]) | (refine ⟨_, rfree_h, x, trivial, leVs_of_eq rfl, .inl rfl, rfl, ?_⟩; show norm (B (decide (freeP x))) _; rw [d]) | (refine ⟨by omega, fun r hrr => ?_⟩; first | ((have hre : r = encI x := by (first | exact get_row hrr hx | fail)); subst hre)) | refine ⟨⟨by omega, by omega⟩, ?_⟩ | (refine ⟨_, with__h, (l, k, { x with st := x.st + 1 }, t), ⟨hx0, hkl⟩, leVs_of_eq rfl, .inl rfl, rfl, ?_⟩; show norm (L 6 ((l.set k { ({ x with st := x.st + 1 } : Inc) with since := t }).map encI)) _) | fail | fail)
    all_goals (refine ⟨[], rfl, trivial, ?_⟩; show leR [L 6 ((l.set k { ({ x with st := x.st + 1 } : Inc) with since := t }).map encI), I 0] (resT (changeF (moveF) l id t)); rw [hC, chg_ok hx hlt (y := { x with st := x.st + 1 }) (show moveF x = ({ x with st := x.st + 1 }, 0) by rw [h1]; exact if_pos h1)]; exact ⟨rfl, rfl, trivial⟩)
  by_cases h2 : x.st = 3
  · have d : decide (freeP x) = false := decide_eq_false (show ¬ (x.st = 1 ∨ x.st = 5) by omega)
    by_cases h3 : x.tri = 0
    · repeat' ((conv => whnf); first | (refine ⟨fun h => ?_, fun h => ?_⟩ <;> try (exfalso; first | omega | exact absurd h (by decide) | exact h rfl | exact absurd (show true = false from h) (by decide) | exact absurd (show false = true from h) (by decide))) | (refine ⟨_, common_h, (l, id, t), hx0, leVs_of_eq rfl, .inl rfl, rfl, ?_⟩; show norm (.tup [I (comF l id t).1, I (comF l id t).2]) _; rw [hD]) | (refine ⟨_, rfree_h, x, trivial, leVs_of_eq rfl, .inl rfl, rfl, ?_⟩; show norm (B (decide (freeP x))) _; rw [d]) | (refine ⟨by omega, fun r hrr => ?_⟩; first | ((have hre : r = encI x := by (first | exact get_row hrr hx | fail)); subst hre)) | fail | fail)
      all_goals (refine ⟨[], rfl, trivial, ?_⟩; show leR [.c .nil, I _] (resT _); rw [hC, chg_err hx hlt ((if_neg h1).trans ((if_pos h2).trans (if_pos h3))) (by decide)]; exact ⟨rfl, rfl, trivial⟩)
    · repeat' ((conv => whnf); first | (refine ⟨fun h => ?_, fun h => ?_⟩ <;> try (exfalso; first | omega | exact absurd h (by decide) | exact h rfl | exact absurd (show true = false from h) (by decide) | exact absurd (show false = true from h) (by decide))) | (refine ⟨_, common_h, (l, id, t), hx0, leVs_of_eq rfl, .inl rfl, rfl, ?_⟩; show norm (.tup [I (comF l id t).1, I (comF l id t).2]) _; rw [hD]) | (refine ⟨_, rfree_h, x, trivial, leVs_of_eq rfl, .inl rfl, rfl, ?_⟩; show norm (B (decide (freeP x))) _; rw [d]) | (refine ⟨by omega, fun r hrr => ?_⟩; first | ((have hre : r = encI x := by (first | exact get_row hrr hx | fail)); subst hre)) | refine ⟨⟨by omega, by omega⟩, ?_⟩ | (refine ⟨_, with__h, (l, k, { x with st := x.st + 1 }, t), ⟨hx0, hkl⟩, leVs_of_eq rfl, .inl rfl, rfl, ?_⟩; show norm (L 6 ((l.set k { ({ x with st := x.st + 1 } : Inc) with since := t }).map encI)) _) | fail | fail)
      all_goals (refine ⟨[], rfl, trivial, ?_⟩; show leR [L 6 ((l.set k { ({ x with st := x.st + 1 } : Inc) with since := t }).map encI), I 0] (resT (changeF (moveF) l id t)); rw [hC, chg_ok hx hlt (y := { x with st := x.st + 1 }) (show moveF x = ({ x with st := x.st + 1 }, 0) by rw [h2]; exact (if_neg h1).trans ((if_pos h2).trans (if_neg h3)))]; exact ⟨rfl, rfl, trivial⟩)
  by_cases h3 : x.st = 4
  · have d : decide (freeP x) = false := decide_eq_false (show ¬ (x.st = 1 ∨ x.st = 5) by omega)
    repeat' ((conv => whnf); first | (refine ⟨fun h => ?_, fun h => ?_⟩ <;> try (exfalso; first | omega | exact absurd h (by decide) | exact h rfl | exact absurd (show true = false from h) (by decide) | exact absurd (show false = true from h) (by decide))) | (refine ⟨_, common_h, (l, id, t), hx0, leVs_of_eq rfl, .inl rfl, rfl, ?_⟩; show norm (.tup [I (comF l id t).1, I (comF l id t).2]) _; rw [hD]) | (refine ⟨_, rfree_h, x, trivial, leVs_of_eq rfl, .inl rfl, rfl, ?_⟩; show norm (B (decide (freeP x))) _; rw [d]) | (refine ⟨by omega, fun r hrr => ?_⟩; first | ((have hre : r = encI x := by (first | exact get_row hrr hx | fail)); subst hre)) | refine ⟨⟨by omega, by omega⟩, ?_⟩ | (refine ⟨_, with__h, (l, k, { x with st := x.st + 1, team := 0 }, t), ⟨hx0, hkl⟩, leVs_of_eq rfl, .inl rfl, rfl, ?_⟩; show norm (L 6 ((l.set k { ({ x with st := x.st + 1, team := 0 } : Inc) with since := t }).map encI)) _) | fail | fail)
    all_goals (refine ⟨[], rfl, trivial, ?_⟩; show leR [L 6 ((l.set k { ({ x with st := x.st + 1, team := 0 } : Inc) with since := t }).map encI), I 0] (resT (changeF (moveF) l id t)); rw [hC, chg_ok hx hlt (y := { x with st := x.st + 1, team := 0 }) (show moveF x = ({ x with st := x.st + 1, team := 0 }, 0) by rw [h3]; exact (if_neg h1).trans ((if_neg h2).trans (if_pos h3)))]; exact ⟨rfl, rfl, trivial⟩)
  · have d : decide (freeP x) = true := decide_eq_true (show x.st = 1 ∨ x.st = 5 by omega)
    repeat' ((conv => whnf); first | (refine ⟨fun h => ?_, fun h => ?_⟩ <;> try (exfalso; first | omega | exact absurd h (by decide) | exact h rfl | exact absurd (show true = false from h) (by decide) | exact absurd (show false = true from h) (by decide))) | (refine ⟨_, common_h, (l, id, t), hx0, leVs_of_eq rfl, .inl rfl, rfl, ?_⟩; show norm (.tup [I (comF l id t).1, I (comF l id t).2]) _; rw [hD]) | (refine ⟨_, rfree_h, x, trivial, leVs_of_eq rfl, .inl rfl, rfl, ?_⟩; show norm (B (decide (freeP x))) _; rw [d]) | (refine ⟨by omega, fun r hrr => ?_⟩; first | ((have hre : r = encI x := by (first | exact get_row hrr hx | fail)); subst hre)) | fail | fail)
    all_goals (refine ⟨[], rfl, trivial, ?_⟩; show leR [.c .nil, I _] (resT _); rw [hC, chg_err hx hlt ((if_neg h1).trans ((if_neg h2).trans (if_neg h3))) (by decide)]; exact ⟨rfl, rfl, trivial⟩)
theorem rmove_h : Holds Try.prog 37 rmoveS := holds_of mix Try.func37 rmoveLow (fun _ => rfl) rmoveV

end Go.Proofs.Ytoeichkblclfaaa
