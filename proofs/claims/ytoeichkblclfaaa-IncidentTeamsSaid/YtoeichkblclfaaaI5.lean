/- Incidents: changes. -/
import Derived.Test.YtoeichkblclfaaaI3
import Derived.Test.YtoeichkblclfaaaI4
namespace Go.Proofs.Ytoeichkblclfaaa
open Go.RowKit
abbrev resT (r : List Inc × Int) : SV := .tup [L 6 (r.1.map encI), I r.2]

/-! slices.Clone[[]skiarea/api.Incident,skiarea/api.Incident] -/
def cloneIIr : IFn := ⟨8, [.tmp 2],
  (.seq (.ops [
    ⟨(some 2), .nilOwn 38 6, [], none⟩] false)
  (.seq (.seq (.ops [
    ⟨(some 3), .mov, [.tmp 0], none⟩,
    ⟨(some 4), .isnil false, [.tmp 3], none⟩] false)
  (.cond (.tmp 4)
    (.seq (.ops [
      ⟨(some 2), .nilOwn 38 6, [], none⟩] false)
    .ret)
    .skip))
  (.seq (.ops [
    ⟨(some 5), .buildOwn 38 6, [], none⟩,
    ⟨(some 6), .mov, [.tmp 0], none⟩,
    ⟨(some 7), .append 38 6 48, [.tmp 5, .tmp 6], none⟩,
    ⟨(some 2), .mov, [.tmp 7], none⟩] false)
  .ret)))⟩
theorem cloneILow : lowF Try.prog { owns := [(2, 38), (5, 38)] } Try.f54 = some cloneIIr := by kernel_rfl
def cloneIS : Spec := ⟨List Inc, fun l => [L 6 (l.map encI)], fun l => l.length ≤ 1000000, fun _ => .osl 0, fun l => [.row 38 6 (l.map encI)]⟩
theorem cloneIV : fnV Try.prog cloneIIr cloneIS := by
  intro (xs : List Inc) (hx : xs.length ≤ 1000000)
  have hl : (xs.map encI).length = xs.length := List.length_map ..
  conv => whnf
  refine ⟨fun h => ?_, ?_⟩
  · conv => whnf
    refine ⟨[1], rfl, ⟨⟨?_, _, _, _, rfl⟩, trivial⟩, ?_⟩
    · show some (Ob.row 38 6 []) = some (Ob.row 38 6 (xs.map encI))
      rw [h]
    · rfl
  · conv => whnf
    refine ⟨⟨by simp; omega, by simp; omega⟩, ?_⟩
    conv => whnf
    exact ⟨[2], rfl, ⟨⟨rfl, _, _, _, rfl⟩, trivial⟩, rfl⟩
theorem cloneI_h : Holds Try.prog 54 cloneIS := holds_of mix Try.func54 cloneILow (fun _ => rfl) cloneIV

/-! skiarea/incident.Report -/
def reportIr : IFn := ⟨26, [.tmp 8, .tmp 9],
  (.seq (.ops [
    ⟨(some 8), .mov, [.const (.slice none 0 0)], none⟩,
    ⟨(some 9), .mov, [.const (.int .i64 0)], none⟩] false)
  (.seq (.ops [
    ⟨(some 12), .mov, [.tmp 0], none⟩,
    ⟨(some 13), .callo 54, [.tmp 12], none⟩,
    ⟨(some 14), .mov, [.tmp 1], none⟩,
    ⟨(some 15), .mov, [.tmp 2], none⟩,
    ⟨(some 16), .mov, [.tmp 3], none⟩,
    ⟨(some 17), .build [.int .i64 0, .int .i64 0, .int .i64 0, .int .i64 0, .int .i64 0, .int .i64 0] [(0, 1), (1, 1), (3, 1), (5, 1)], [.tmp 14, .tmp 15, .const (.int .i64 1), .tmp 16], none⟩,
    ⟨(some 18), .buildSl 38 6, [.tmp 17], none⟩,
    ⟨(some 19), .append 38 6 48, [.tmp 13, .tmp 18], none⟩,
    ⟨(some 10), .mov, [.tmp 19], none⟩] false)
  (.seq (.seq (.ops [
    ⟨(some 20), .mov, [.tmp 10], none⟩,
    ⟨(some 21), .call 10, [.tmp 20], none⟩,
    ⟨(some 11), .mov, [.tmp 21], none⟩] false)
  (.seq (.ops [
    ⟨(some 22), .mov, [.tmp 11], none⟩,
    ⟨(some 23), .cmp .neq, [.tmp 22, .const (.int .i64 0)], none⟩] false)
  (.cond (.tmp 23)
    (.seq (.ops [
      ⟨(some 24), .mov, [.tmp 11], none⟩,
      ⟨(some 8), .mov, [.const (.slice none 0 0)], none⟩,
      ⟨(some 9), .mov, [.tmp 24], none⟩] false)
    .ret)
    .skip)))
  (.seq (.ops [
    ⟨(some 25), .mov, [.tmp 10], none⟩,
    ⟨(some 8), .mov, [.tmp 25], none⟩,
    ⟨(some 9), .mov, [.const (.int .i64 0)], none⟩] false)
  .ret))))⟩
theorem reportLow : lowF Try.prog { gives := [13] } Try.f24 = some reportIr := by kernel_rfl
def reportS : Spec := spec (List Inc × Int × Int × Int) (fun p => [L 6 (p.1.map encI), I p.2.1, I p.2.2.1, I p.2.2.2]) (fun p => p.1.length ≤ 64) (fun p => resT (reportF p.1 p.2.1 p.2.2.1 p.2.2.2))
theorem reportV : fnV Try.prog reportIr reportS := by
  intro ⟨(l : List Inc), (id : Int), (run : Int), (t : Int)⟩ hx
  replace hx : l.length ≤ 64 := hx
  have hl : (l.map encI).length = l.length := List.length_map ..
  show vc _ _ _ _ ⟨argEnv 0 [L 6 (l.map encI), I id, I run, I t], [], 0⟩
  obtain ⟨o, ho⟩ : ∃ o, l ++ [⟨id, run, 0, 1, 0, t⟩] = o := ⟨_, rfl⟩
  have hol : o.length = l.length + 1 := by rw [← ho]; simp
  have hm : l.map encI ++ [encI ⟨id, run, 0, 1, 0, t⟩] = o.map encI := by rw [← ho]; simp
  have hR : reportF l id run t = if rightI o ≠ 0 then ([], rightI o) else (o, 0) := by unfold reportF; rw [ho]
  obtain ⟨e, hE⟩ : ∃ e, rightI o = e := ⟨_, rfl⟩
  rw [hE] at hR
  by_cases he : e = 0
  · rw [if_neg (by omega)] at hR
    repeat' ((conv => whnf); first | (refine ⟨fun h => ?_, fun h => ?_⟩ <;> try (exfalso; first | omega | exact absurd h (by decide) | exact h rfl | exact absurd (show true = false from h) (by decide) | exact absurd (show false = true from h) (by decide))) | refine ⟨rfl, _, cloneI_h, l, (by show l.length ≤ 1000000; omega), leVs_of_eq rfl, trivial, ?_⟩ | (refine ⟨⟨by simp; omega, by simp; omega⟩, ?_⟩) | (refine ⟨_, right_h, o, (by show o.length ≤ 9223372036854775807; omega), ⟨by show leC (.sl 6 (l.map encI ++ [encI ⟨id, run, 0, 1, 0, t⟩])) (.sl 6 (o.map encI)); rw [hm]; rfl, trivial⟩, .inr rfl, rfl, ?_⟩; show norm (I (rightI o)) _; rw [hE]) | fail | fail)
    all_goals (refine ⟨[], rfl, trivial, ?_⟩; show leR [L 6 (l.map encI ++ [encI ⟨id, run, 0, 1, 0, t⟩]), I 0] (resT _); rw [hR, hm]; exact ⟨rfl, rfl, trivial⟩)
  · rw [if_pos he] at hR
    repeat' ((conv => whnf); first | (refine ⟨fun h => ?_, fun h => ?_⟩ <;> try (exfalso; first | omega | exact absurd h (by decide) | exact h rfl | exact absurd (show true = false from h) (by decide) | exact absurd (show false = true from h) (by decide))) | refine ⟨rfl, _, cloneI_h, l, (by show l.length ≤ 1000000; omega), leVs_of_eq rfl, trivial, ?_⟩ | (refine ⟨⟨by simp; omega, by simp; omega⟩, ?_⟩) | (refine ⟨_, right_h, o, (by show o.length ≤ 9223372036854775807; omega), ⟨by show leC (.sl 6 (l.map encI ++ [encI ⟨id, run, 0, 1, 0, t⟩])) (.sl 6 (o.map encI)); rw [hm]; rfl, trivial⟩, .inr rfl, rfl, ?_⟩; show norm (I (rightI o)) _; rw [hE]) | fail | fail)
    all_goals (refine ⟨[], rfl, trivial, ?_⟩; show leR [.c .nil, I _] (resT _); rw [hR]; exact ⟨rfl, rfl, trivial⟩)
theorem report_h : Holds Try.prog 24 reportS := holds_of mix Try.func24 reportLow (fun _ => rfl) reportV
abbrev reqS (l : List Inc) (tri team : Int) (g : Inc → Inc × Int) : Spec := spec Inc (fun x => [.agg [L 6 (l.map encI), I tri, I team], aI x]) (fun _ => l.length ≤ 64) (fun x => .tup [aI (g x).1, I (g x).2])

/-! (skiarea/incident.request).judge -/
def judgeMIr : IFn := ⟨23, [.cell 4 6 true, .tmp 5],
  (.seq (.ops [
    ⟨(some 2), .box, [.tmp 0], none⟩,
    ⟨(some 3), .box, [.tmp 1], none⟩,
    ⟨(some 4), .alloc [.int .i64 0, .int .i64 0, .int .i64 0, .int .i64 0, .int .i64 0, .int .i64 0], [], none⟩,
    ⟨(some 5), .mov, [.const (.int .i64 0)], none⟩] false)
  (.seq (.seq (.ops [
    ⟨(some 6), .faddr 3, [.tmp 3], none⟩,
    ⟨(some 7), .load 1 false, [.tmp 6], none⟩,
    ⟨(some 8), .cmp .eql, [.tmp 7, .const (.int .i64 5)], none⟩] false)
  (.cond (.tmp 8)
    (.seq (.ops [
      ⟨(some 9), .build [.int .i64 0, .int .i64 0, .int .i64 0, .int .i64 0, .int .i64 0, .int .i64 0] [], [], none⟩,
      ⟨none, .store 6, [.tmp 4, .tmp 9], none⟩,
      ⟨(some 5), .mov, [.const (.int .i64 10)], none⟩] false)
    .ret)
    .skip))
  (.seq (.seq (.ops [
    ⟨(some 10), .faddr 1, [.tmp 2], none⟩,
    ⟨(some 11), .load 1 false, [.tmp 10], none⟩,
    ⟨(some 12), .cmp .lss, [.tmp 11, .const (.int .i64 1)], none⟩,
    ⟨(some 13), .mov, [.tmp 12], none⟩,
    ⟨(some 14), .faddr 1, [.tmp 2], (some (13, false))⟩,
    ⟨(some 15), .load 1 false, [.tmp 14], (some (13, false))⟩,
    ⟨(some 16), .cmp .gtr, [.tmp 15, .const (.int .i64 4)], (some (13, false))⟩,
    ⟨(some 17), .pick, [.tmp 13, .const (.bool true), .tmp 16], none⟩] false)
  (.cond (.tmp 17)
    (.seq (.ops [
      ⟨(some 18), .build [.int .i64 0, .int .i64 0, .int .i64 0, .int .i64 0, .int .i64 0, .int .i64 0] [], [], none⟩,
      ⟨none, .store 6, [.tmp 4, .tmp 18], none⟩,
      ⟨(some 5), .mov, [.const (.int .i64 2)], none⟩] false)
    .ret)
    .skip))
  (.seq (.ops [
    ⟨(some 19), .faddr 1, [.tmp 2], none⟩,
    ⟨(some 20), .load 1 false, [.tmp 19], none⟩,
    ⟨(some 21), .faddr 2, [.tmp 3], none⟩,
    ⟨none, .store 1, [.tmp 21, .tmp 20], none⟩] false)
  (.seq (.ops [
    ⟨(some 22), .load 6 true, [.tmp 3], none⟩,
    ⟨none, .store 6, [.tmp 4, .tmp 22], none⟩,
    ⟨(some 5), .mov, [.const (.int .i64 0)], none⟩] false)
  .ret)))))⟩
theorem judgeMLow : lowF Try.prog {} Try.f56 = some judgeMIr := by kernel_rfl
def judgeMS : Spec := spec (List Inc × Int × Int × Inc) (fun p => [.agg [L 6 (p.1.map encI), I p.2.1, I p.2.2.1], aI p.2.2.2]) (fun p => p.1.length ≤ 64) (fun p => .tup [aI (judgeF p.2.1 p.2.2.2).1, I (judgeF p.2.1 p.2.2.2).2])
theorem judgeMV : fnV Try.prog judgeMIr judgeMS := by
  intro ⟨(l : List Inc), (tri : Int), (team : Int), (x : Inc)⟩ hx
  replace hx : l.length ≤ 64 := hx
  show vc _ _ _ _ ⟨argEnv 0 [.agg [L 6 (l.map encI), I tri, I team], aI x], [], 0⟩
  by_cases h1 : x.st = 5
  · have hR : judgeF tri x = (inc0, 10) := if_pos h1
    repeat' ((conv => whnf); first | (refine ⟨fun h => ?_, fun h => ?_⟩ <;> try (exfalso; first | omega | exact absurd h (by decide) | exact h rfl | exact absurd (show true = false from h) (by decide) | exact absurd (show false = true from h) (by decide))) | fail | fail)
    all_goals (refine ⟨[], rfl, trivial, ?_⟩; show leR _ (.tup [aI (judgeF tri x).1, I (judgeF tri x).2]); rw [hR]; exact ⟨leV_refl _, rfl, trivial⟩)
  by_cases h2 : tri < 1 ∨ 4 < tri
  · have hR : judgeF tri x = (inc0, 2) := (if_neg h1).trans (if_pos h2)
    repeat' ((conv => whnf); first | (refine ⟨fun h => ?_, fun h => ?_⟩ <;> try (exfalso; first | omega | exact absurd h (by decide) | exact h rfl | exact absurd (show true = false from h) (by decide) | exact absurd (show false = true from h) (by decide))) | fail | fail)
    all_goals (refine ⟨[], rfl, trivial, ?_⟩; show leR _ (.tup [aI (judgeF tri x).1, I (judgeF tri x).2]); rw [hR]; exact ⟨leV_refl _, rfl, trivial⟩)
  · have hR : judgeF tri x = ({ x with tri := tri }, 0) := (if_neg h1).trans (if_neg h2)
    repeat' ((conv => whnf); first | (refine ⟨fun h => ?_, fun h => ?_⟩ <;> try (exfalso; first | omega | exact absurd h (by decide) | exact h rfl | exact absurd (show true = false from h) (by decide) | exact absurd (show false = true from h) (by decide))) | fail | fail)
    all_goals (refine ⟨[], rfl, trivial, ?_⟩; show leR _ (.tup [aI (judgeF tri x).1, I (judgeF tri x).2]); rw [hR]; exact ⟨leV_refl _, rfl, trivial⟩)
theorem judgeM_h : Holds Try.prog 56 judgeMS := holds_of mix Try.func56 judgeMLow (fun _ => rfl) judgeMV
theorem judgeM_c : callable Try.prog 56 = true := by kernel_rfl
theorem judgeM_p (l : List Inc) (tri team : Int) : Holds Try.prog 56 (reqS l tri team (fun x => judgeF tri x)) := fun x F w vs hp hF hr => judgeM_h (l, tri, team, x) F w vs hp hF hr

/-! (skiarea/incident.request).send -/
def sendMIr : IFn := ⟨30, [.cell 4 6 true, .tmp 5],
  (.seq (.ops [
    ⟨(some 2), .box, [.tmp 0], none⟩,
    ⟨(some 3), .box, [.tmp 1], none⟩,
    ⟨(some 4), .alloc [.int .i64 0, .int .i64 0, .int .i64 0, .int .i64 0, .int .i64 0, .int .i64 0], [], none⟩,
    ⟨(some 5), .mov, [.const (.int .i64 0)], none⟩] false)
  (.seq (.seq (.ops [
    ⟨(some 6), .faddr 3, [.tmp 3], none⟩,
    ⟨(some 7), .load 1 false, [.tmp 6], none⟩,
    ⟨(some 8), .cmp .neq, [.tmp 7, .const (.int .i64 1)], none⟩] false)
  (.cond (.tmp 8)
    (.seq (.ops [
      ⟨(some 9), .build [.int .i64 0, .int .i64 0, .int .i64 0, .int .i64 0, .int .i64 0, .int .i64 0] [], [], none⟩,
      ⟨none, .store 6, [.tmp 4, .tmp 9], none⟩,
      ⟨(some 5), .mov, [.const (.int .i64 10)], none⟩] false)
    .ret)
    .skip))
  (.seq (.seq (.ops [
    ⟨(some 10), .faddr 2, [.tmp 2], none⟩,
    ⟨(some 11), .load 1 false, [.tmp 10], none⟩,
    ⟨(some 12), .cmp .lss, [.tmp 11, .const (.int .i64 1)], none⟩,
    ⟨(some 13), .mov, [.tmp 12], none⟩,
    ⟨(some 14), .faddr 2, [.tmp 2], (some (13, false))⟩,
    ⟨(some 15), .load 1 false, [.tmp 14], (some (13, false))⟩,
    ⟨(some 16), .cmp .gtr, [.tmp 15, .const (.int .i64 9999)], (some (13, false))⟩,
    ⟨(some 17), .pick, [.tmp 13, .const (.bool true), .tmp 16], none⟩] false)
  (.cond (.tmp 17)
    (.seq (.ops [
      ⟨(some 18), .build [.int .i64 0, .int .i64 0, .int .i64 0, .int .i64 0, .int .i64 0, .int .i64 0] [], [], none⟩,
      ⟨none, .store 6, [.tmp 4, .tmp 18], none⟩,
      ⟨(some 5), .mov, [.const (.int .i64 2)], none⟩] false)
    .ret)
    .skip))
  (.seq (.seq (.ops [
    ⟨(some 19), .faddr 0, [.tmp 2], none⟩,
    ⟨(some 20), .load 1 false, [.tmp 19], none⟩,
    ⟨(some 21), .faddr 2, [.tmp 2], none⟩,
    ⟨(some 22), .load 1 false, [.tmp 21], none⟩,
    ⟨(some 23), .call 31, [.tmp 20, .tmp 22], none⟩] false)
  (.cond (.tmp 23)
    (.seq (.ops [
      ⟨(some 24), .build [.int .i64 0, .int .i64 0, .int .i64 0, .int .i64 0, .int .i64 0, .int .i64 0] [], [], none⟩,
      ⟨none, .store 6, [.tmp 4, .tmp 24], none⟩,
      ⟨(some 5), .mov, [.const (.int .i64 15)], none⟩] false)
    .ret)
    .skip))
  (.seq (.ops [
    ⟨(some 25), .faddr 3, [.tmp 3], none⟩,
    ⟨none, .store 1, [.tmp 25, .const (.int .i64 2)], none⟩] false)
  (.seq (.ops [
    ⟨(some 26), .faddr 2, [.tmp 2], none⟩,
    ⟨(some 27), .load 1 false, [.tmp 26], none⟩,
    ⟨(some 28), .faddr 4, [.tmp 3], none⟩,
    ⟨none, .store 1, [.tmp 28, .tmp 27], none⟩] false)
  (.seq (.ops [
    ⟨(some 29), .load 6 true, [.tmp 3], none⟩,
    ⟨none, .store 6, [.tmp 4, .tmp 29], none⟩,
    ⟨(some 5), .mov, [.const (.int .i64 0)], none⟩] false)
  .ret)))))))⟩
theorem sendMLow : lowF Try.prog {} Try.f57 = some sendMIr := by kernel_rfl
def sendMS : Spec := spec (List Inc × Int × Int × Inc) (fun p => [.agg [L 6 (p.1.map encI), I p.2.1, I p.2.2.1], aI p.2.2.2]) (fun p => p.1.length ≤ 64) (fun p => .tup [aI (sendF p.1 p.2.2.1 p.2.2.2).1, I (sendF p.1 p.2.2.1 p.2.2.2).2])
theorem sendMV : fnV Try.prog sendMIr sendMS := by
  intro ⟨(l : List Inc), (tri : Int), (team : Int), (x : Inc)⟩ hx
  replace hx : l.length ≤ 64 := hx
  show vc _ _ _ _ ⟨argEnv 0 [.agg [L 6 (l.map encI), I tri, I team], aI x], [], 0⟩
  by_cases h1 : x.st = 1
  case neg =>
    · have hR : sendF l team x = (inc0, 10) := if_pos h1
      repeat' ((conv => whnf); first | (refine ⟨fun h => ?_, fun h => ?_⟩ <;> try (exfalso; first | omega | exact absurd h (by decide) | exact h rfl | exact absurd (show true = false from h) (by decide) | exact absurd (show false = true from h) (by decide))) | fail | fail)
      all_goals (refine ⟨[], rfl, trivial, ?_⟩; show leR _ (.tup [aI (sendF l team x).1, I (sendF l team x).2]); rw [hR]; exact ⟨leV_refl _, rfl, trivial⟩)
  by_cases h2 : team < 1 ∨ 9999 < team
  · have hR : sendF l team x = (inc0, 2) := (if_neg (Decidable.not_not.2 h1)).trans (if_pos h2)
    repeat' ((conv => whnf); first | (refine ⟨fun h => ?_, fun h => ?_⟩ <;> try (exfalso; first | omega | exact absurd h (by decide) | exact h rfl | exact absurd (show true = false from h) (by decide) | exact absurd (show false = true from h) (by decide))) | fail | fail)
    all_goals (refine ⟨[], rfl, trivial, ?_⟩; show leR _ (.tup [aI (sendF l team x).1, I (sendF l team x).2]); rw [hR]; exact ⟨leV_refl _, rfl, trivial⟩)
  cases h3 : l.any (teamB team)
  case true =>
    · have hR : sendF l team x = (inc0, 15) := (if_neg (Decidable.not_not.2 h1)).trans ((if_neg h2).trans (if_pos h3))
      repeat' ((conv => whnf); first | (refine ⟨fun h => ?_, fun h => ?_⟩ <;> try (exfalso; first | omega | exact absurd h (by decide) | exact h rfl | exact absurd (show true = false from h) (by decide) | exact absurd (show false = true from h) (by decide))) | (refine ⟨_, engaged_h, (l, team), (by show l.length ≤ 9223372036854775807; omega), leVs_of_eq rfl, .inl rfl, rfl, ?_⟩; show norm (B (l.any (teamB team))) _; rw [h3]) | fail | fail)
      all_goals (refine ⟨[], rfl, trivial, ?_⟩; show leR _ (.tup [aI (sendF l team x).1, I (sendF l team x).2]); rw [hR]; exact ⟨leV_refl _, rfl, trivial⟩)
  · have hR : sendF l team x = ({ x with st := 2, team := team }, 0) := (if_neg (Decidable.not_not.2 h1)).trans ((if_neg h2).trans (if_neg (by rw [h3]; decide)))
    repeat' ((conv => whnf); first | (refine ⟨fun h => ?_, fun h => ?_⟩ <;> try (exfalso; first | omega | exact absurd h (by decide) | exact h rfl | exact absurd (show true = false from h) (by decide) | exact absurd (show false = true from h) (by decide))) | (refine ⟨_, engaged_h, (l, team), (by show l.length ≤ 9223372036854775807; omega), leVs_of_eq rfl, .inl rfl, rfl, ?_⟩; show norm (B (l.any (teamB team))) _; rw [h3]) | fail | fail)
    all_goals (refine ⟨[], rfl, trivial, ?_⟩; show leR _ (.tup [aI (sendF l team x).1, I (sendF l team x).2]); rw [hR]; exact ⟨leV_refl _, rfl, trivial⟩)
theorem sendM_h : Holds Try.prog 57 sendMS := holds_of mix Try.func57 sendMLow (fun _ => rfl) sendMV
theorem sendM_c : callable Try.prog 57 = true := by kernel_rfl
theorem sendM_p (l : List Inc) (tri team : Int) : Holds Try.prog 57 (reqS l tri team (fun x => sendF l team x)) := fun x F w vs hp hF hr => sendM_h (l, tri, team, x) F w vs hp hF hr

/-! (skiarea/incident.request).move -/
def moveMIr : IFn := ⟨24, [.cell 4 6 true, .tmp 5],
  (.seq (.ops [
    ⟨(some 2), .box, [.tmp 0], none⟩,
    ⟨(some 3), .box, [.tmp 1], none⟩,
    ⟨(some 4), .alloc [.int .i64 0, .int .i64 0, .int .i64 0, .int .i64 0, .int .i64 0, .int .i64 0], [], none⟩,
    ⟨(some 5), .mov, [.const (.int .i64 0)], none⟩] false)
  (.seq (.seq (.ops [
    ⟨(some 6), .faddr 3, [.tmp 3], none⟩,
    ⟨(some 7), .load 1 false, [.tmp 6], none⟩] false)
  (.block 0
    (.seq (.ops [
      ⟨(some 10), .cmp .eql, [.tmp 7, .const (.int .i64 2)], none⟩,
      ⟨(some 9), .mov, [.tmp 10], none⟩] false)
    (.cond (.tmp 9)
      (.ops [
        ⟨(some 11), .faddr 3, [.tmp 3], none⟩,
        ⟨none, .store 1, [.tmp 11, .const (.int .i64 3)], none⟩] false)
      (.seq (.ops [
        ⟨(some 13), .cmp .eql, [.tmp 7, .const (.int .i64 3)], none⟩,
        ⟨(some 12), .mov, [.tmp 13], none⟩] false)
      (.cond (.tmp 12)
        (.seq (.seq (.ops [
          ⟨(some 14), .faddr 2, [.tmp 3], none⟩,
          ⟨(some 15), .load 1 false, [.tmp 14], none⟩,
          ⟨(some 16), .cmp .eql, [.tmp 15, .const (.int .i64 0)], none⟩] false)
        (.cond (.tmp 16)
          (.seq (.ops [
            ⟨(some 17), .build [.int .i64 0, .int .i64 0, .int .i64 0, .int .i64 0, .int .i64 0, .int .i64 0] [], [], none⟩,
            ⟨none, .store 6, [.tmp 4, .tmp 17], none⟩,
            ⟨(some 5), .mov, [.const (.int .i64 17)], none⟩] false)
          .ret)
          .skip))
        (.ops [
          ⟨(some 18), .faddr 3, [.tmp 3], none⟩,
          ⟨none, .store 1, [.tmp 18, .const (.int .i64 4)], none⟩] false))
        (.seq (.ops [
          ⟨(some 20), .cmp .eql, [.tmp 7, .const (.int .i64 4)], none⟩,
          ⟨(some 19), .mov, [.tmp 20], none⟩] false)
        (.cond (.tmp 19)
          (.seq (.ops [
            ⟨(some 21), .faddr 3, [.tmp 3], none⟩,
            ⟨none, .store 1, [.tmp 21, .const (.int .i64 5)], none⟩] false)
          (.ops [
            ⟨(some 22), .faddr 4, [.tmp 3], none⟩,
            ⟨none, .store 1, [.tmp 22, .const (.int .i64 0)], none⟩] false))
          (.seq (.ops [
            ⟨(some 8), .build [.int .i64 0, .int .i64 0, .int .i64 0, .int .i64 0, .int .i64 0, .int .i64 0] [], [], none⟩,
            ⟨none, .store 6, [.tmp 4, .tmp 8], none⟩,
            ⟨(some 5), .mov, [.const (.int .i64 10)], none⟩] false)
          .ret)))))))))
  (.seq (.ops [
    ⟨(some 23), .load 6 true, [.tmp 3], none⟩,
    ⟨none, .store 6, [.tmp 4, .tmp 23], none⟩,
    ⟨(some 5), .mov, [.const (.int .i64 0)], none⟩] false)
  .ret)))⟩
theorem moveMLow : lowF Try.prog {} Try.f58 = some moveMIr := by kernel_rfl
def moveMS : Spec := spec (List Inc × Int × Int × Inc) (fun p => [.agg [L 6 (p.1.map encI), I p.2.1, I p.2.2.1], aI p.2.2.2]) (fun p => p.1.length ≤ 64) (fun p => .tup [aI (moveF p.2.2.2).1, I (moveF p.2.2.2).2])
theorem moveMV : fnV Try.prog moveMIr moveMS := by
  intro ⟨(l : List Inc), (tri : Int), (team : Int), (x : Inc)⟩ hx
  replace hx : l.length ≤ 64 := hx
  show vc _ _ _ _ ⟨argEnv 0 [.agg [L 6 (l.map encI), I tri, I team], aI x], [], 0⟩
  by_cases h1 : x.st = 2
  · have hR : moveF x = ({ x with st := 3 }, 0) := if_pos h1
    repeat' ((conv => whnf); first | (refine ⟨fun h => ?_, fun h => ?_⟩ <;> try (exfalso; first | omega | exact absurd h (by decide) | exact h rfl | exact absurd (show true = false from h) (by decide) | exact absurd (show false = true from h) (by decide))) | fail | fail)
    all_goals (refine ⟨[], rfl, trivial, ?_⟩; show leR _ (.tup [aI (moveF x).1, I (moveF x).2]); rw [hR]; exact ⟨leV_refl _, rfl, trivial⟩)
  by_cases h2 : x.st = 3
  · by_cases h3 : x.tri = 0
    · have hR : moveF x = (inc0, 17) := (if_neg h1).trans ((if_pos h2).trans (if_pos h3))
      repeat' ((conv => whnf); first | (refine ⟨fun h => ?_, fun h => ?_⟩ <;> try (exfalso; first | omega | exact absurd h (by decide) | exact h rfl | exact absurd (show true = false from h) (by decide) | exact absurd (show false = true from h) (by decide))) | fail | fail)
      all_goals (refine ⟨[], rfl, trivial, ?_⟩; show leR _ (.tup [aI (moveF x).1, I (moveF x).2]); rw [hR]; exact ⟨leV_refl _, rfl, trivial⟩)
    · have hR : moveF x = ({ x with st := 4 }, 0) := (if_neg h1).trans ((if_pos h2).trans (if_neg h3))
      repeat' ((conv => whnf); first | (refine ⟨fun h => ?_, fun h => ?_⟩ <;> try (exfalso; first | omega | exact absurd h (by decide) | exact h rfl | exact absurd (show true = false from h) (by decide) | exact absurd (show false = true from h) (by decide))) | fail | fail)
      all_goals (refine ⟨[], rfl, trivial, ?_⟩; show leR _ (.tup [aI (moveF x).1, I (moveF x).2]); rw [hR]; exact ⟨leV_refl _, rfl, trivial⟩)
  by_cases h3 : x.st = 4
  · have hR : moveF x = ({ x with st := 5, team := 0 }, 0) := (if_neg h1).trans ((if_neg h2).trans (if_pos h3))
    repeat' ((conv => whnf); first | (refine ⟨fun h => ?_, fun h => ?_⟩ <;> try (exfalso; first | omega | exact absurd h (by decide) | exact h rfl | exact absurd (show true = false from h) (by decide) | exact absurd (show false = true from h) (by decide))) | fail | fail)
    all_goals (refine ⟨[], rfl, trivial, ?_⟩; show leR _ (.tup [aI (moveF x).1, I (moveF x).2]); rw [hR]; exact ⟨leV_refl _, rfl, trivial⟩)
  · have hR : moveF x = (inc0, 10) := (if_neg h1).trans ((if_neg h2).trans (if_neg h3))
    repeat' ((conv => whnf); first | (refine ⟨fun h => ?_, fun h => ?_⟩ <;> try (exfalso; first | omega | exact absurd h (by decide) | exact h rfl | exact absurd (show true = false from h) (by decide) | exact absurd (show false = true from h) (by decide))) | fail | fail)
    all_goals (refine ⟨[], rfl, trivial, ?_⟩; show leR _ (.tup [aI (moveF x).1, I (moveF x).2]); rw [hR]; exact ⟨leV_refl _, rfl, trivial⟩)
theorem moveM_h : Holds Try.prog 58 moveMS := holds_of mix Try.func58 moveMLow (fun _ => rfl) moveMV
theorem moveM_c : callable Try.prog 58 = true := by kernel_rfl
theorem moveM_p (l : List Inc) (tri team : Int) : Holds Try.prog 58 (reqS l tri team (fun x => moveF x)) := fun x F w vs hp hF hr => moveM_h (l, tri, team, x) F w vs hp hF hr
structure ChX where
  l : List Inc
  tri : Int
  team : Int
  id : Int
  t : Int
  f : Nat
  g : Inc → Inc × Int
def ChX.ok (x : ChX) : Prop := x.l.length ≤ 64 ∧ callable Try.prog x.f = true ∧ Holds Try.prog x.f (reqS x.l x.tri x.team x.g)

/-! skiarea/incident.change -/
def changeIr : IFn := ⟨56, [.tmp 8, .tmp 9],
  (.seq (.ops [
    ⟨(some 4), .box, [.tmp 0], none⟩,
    ⟨(some 8), .mov, [.const (.slice none 0 0)], none⟩,
    ⟨(some 9), .mov, [.const (.int .i64 0)], none⟩] false)
  (.seq (.ops [
    ⟨(some 14), .faddr 0, [.tmp 4], none⟩,
    ⟨(some 15), .load 1 false, [.tmp 14], none⟩,
    ⟨(some 16), .mov, [.tmp 1], none⟩,
    ⟨(some 17), .call 30, [.tmp 15, .tmp 16], none⟩,
    ⟨(some 10), .mov, [.tmp 17], none⟩] false)
  (.seq (.seq (.ops [
    ⟨(some 18), .mov, [.tmp 10], none⟩,
    ⟨(some 19), .cmp .lss, [.tmp 18, .const (.int .i64 0)], none⟩] false)
  (.cond (.tmp 19)
    (.seq (.ops [
      ⟨(some 8), .mov, [.const (.slice none 0 0)], none⟩,
      ⟨(some 9), .mov, [.const (.int .i64 8)], none⟩] false)
    .ret)
    .skip))
  (.seq (.seq (.ops [
    ⟨(some 20), .mov, [.tmp 2], none⟩,
    ⟨(some 21), .faddr 0, [.tmp 4], none⟩,
    ⟨(some 22), .load 1 false, [.tmp 21], none⟩,
    ⟨(some 23), .mov, [.tmp 10], none⟩,
    ⟨(some 24), .idx 6, [.tmp 22, .tmp 23], none⟩,
    ⟨(some 25), .faddr 5, [.tmp 24], none⟩,
    ⟨(some 26), .load 1 false, [.tmp 25], none⟩,
    ⟨(some 27), .cmp .lss, [.tmp 20, .tmp 26], none⟩,
    ⟨(some 28), .mov, [.tmp 27], none⟩,
    ⟨(some 29), .mov, [.tmp 2], (some (28, false))⟩,
    ⟨(some 30), .cmp .gtr, [.tmp 29, .const (.int .i64 20000000)], (some (28, false))⟩,
    ⟨(some 31), .pick, [.tmp 28, .const (.bool true), .tmp 30], none⟩] false)
  (.cond (.tmp 31)
    (.seq (.ops [
      ⟨(some 8), .mov, [.const (.slice none 0 0)], none⟩,
      ⟨(some 9), .mov, [.const (.int .i64 11)], none⟩] false)
    .ret)
    .skip))
  (.seq (.ops [
    ⟨(some 33), .mov, [.tmp 3], none⟩,
    ⟨(some 34), .load 3 true, [.tmp 4], none⟩,
    ⟨(some 35), .faddr 0, [.tmp 4], none⟩,
    ⟨(some 36), .load 1 false, [.tmp 35], none⟩,
    ⟨(some 37), .mov, [.tmp 10], none⟩,
    ⟨(some 38), .idx 6, [.tmp 36, .tmp 37], none⟩,
    ⟨(some 39), .load 6 true, [.tmp 38], none⟩,
    ⟨(some 40), .callv, [.tmp 33, .tmp 34, .tmp 39], none⟩,
    ⟨(some 32), .mov, [.tmp 40], none⟩,
    ⟨(some 41), .extract 0, [.tmp 32], none⟩,
    ⟨(some 42), .extract 1, [.tmp 32], none⟩,
    ⟨(some 11), .alloc [.int .i64 0, .int .i64 0, .int .i64 0, .int .i64 0, .int .i64 0, .int .i64 0], [], none⟩,
    ⟨none, .store 6, [.tmp 11, .tmp 41], none⟩,
    ⟨(some 12), .mov, [.tmp 42], none⟩] true)
  (.seq (.seq (.ops [
    ⟨(some 43), .mov, [.tmp 12], none⟩,
    ⟨(some 44), .cmp .neq, [.tmp 43, .const (.int .i64 0)], none⟩] false)
  (.cond (.tmp 44)
    (.seq (.ops [
      ⟨(some 45), .mov, [.tmp 12], none⟩,
      ⟨(some 8), .mov, [.const (.slice none 0 0)], none⟩,
      ⟨(some 9), .mov, [.tmp 45], none⟩] false)
    .ret)
    .skip))
  (.seq (.ops [
    ⟨(some 46), .mov, [.tmp 2], none⟩,
    ⟨(some 47), .faddr 5, [.tmp 11], none⟩,
    ⟨none, .store 1, [.tmp 47, .tmp 46], none⟩] false)
  (.seq (.ops [
    ⟨(some 48), .faddr 0, [.tmp 4], none⟩,
    ⟨(some 49), .load 1 false, [.tmp 48], none⟩,
    ⟨(some 50), .callo 54, [.tmp 49], none⟩,
    ⟨(some 13), .mov, [.tmp 50], none⟩] false)
  (.seq (.ops [
    ⟨(some 51), .mov, [.tmp 13], none⟩,
    ⟨(some 52), .mov, [.tmp 10], none⟩,
    ⟨(some 53), .load 6 true, [.tmp 11], none⟩,
    ⟨(some 54), .idx 6, [.tmp 51, .tmp 52], none⟩,
    ⟨none, .store 6, [.tmp 54, .tmp 53], none⟩] false)
  (.seq (.ops [
    ⟨(some 55), .mov, [.tmp 13], none⟩,
    ⟨(some 8), .mov, [.tmp 55], none⟩,
    ⟨(some 9), .mov, [.const (.int .i64 0)], none⟩] false)
  .ret))))))))))⟩
theorem changeLow : lowF Try.prog { gives := [50] } Try.f55 = some changeIr := by kernel_rfl
def changeS : Spec := spec ChX (fun x => [.agg [L 6 (x.l.map encI), I x.tri, I x.team], I x.id, I x.t, .fn x.f []]) ChX.ok (fun x => resT (changeF x.g x.l x.id x.t))
theorem changeV : fnV Try.prog changeIr changeS := by
  intro ⟨(l : List Inc), (tri : Int), (team : Int), (id : Int), (t : Int), (f : Nat), (g : Inc → Inc × Int)⟩ ho
  obtain ⟨hx0, hc, hf⟩ : l.length ≤ 64 ∧ callable Try.prog f = true ∧ Holds Try.prog f (reqS l tri team g) := ho
  have hl : (l.map encI).length = l.length := List.length_map ..
  show vc _ _ _ _ ⟨argEnv 0 [.agg [L 6 (l.map encI), I tri, I team], I id, I t, .fn f []], [], 0⟩
  rcases ix_cases (idB id) l with ⟨q1, _⟩ | ⟨k, x, q1, hx, _, _, _⟩
  · repeat' ((conv => whnf); first | (refine ⟨fun h => ?_, fun h => ?_⟩ <;> try (exfalso; first | omega | exact absurd h (by decide) | exact h rfl | exact absurd (show true = false from h) (by decide) | exact absurd (show false = true from h) (by decide))) | (refine ⟨_, find_h, (l, id), (by show l.length ≤ 9223372036854775807; omega), leVs_of_eq rfl, .inl rfl, rfl, ?_⟩; show norm (I (ixF (idB id) l)) _; rw [q1]) | fail | fail)
    all_goals (refine ⟨[], rfl, trivial, ?_⟩; show leR [.c .nil, I _] (resT _); rw [change_no q1]; exact ⟨rfl, rfl, trivial⟩)
  · have hkl := (List.getElem?_eq_some_iff.1 hx).1
    have hC : changeF g l id t = chg g l k t := change_at q1
    by_cases hlt : t < x.since ∨ 20000000 < t
    · repeat' ((conv => whnf); first | (refine ⟨fun h => ?_, fun h => ?_⟩ <;> try (exfalso; first | omega | exact absurd h (by decide) | exact h rfl | exact absurd (show true = false from h) (by decide) | exact absurd (show false = true from h) (by decide))) | (refine ⟨_, find_h, (l, id), (by show l.length ≤ 9223372036854775807; omega), leVs_of_eq rfl, .inl rfl, rfl, ?_⟩; show norm (I (ixF (idB id) l)) _; rw [q1]) | (refine ⟨by omega, fun r hrr => ?_⟩; first | ((have hre : r = encI x := by (first | exact get_row hrr hx | fail)); subst hre)) | fail | fail)
      all_goals (refine ⟨[], rfl, trivial, ?_⟩; show leR [.c .nil, I _] (resT _); rw [hC, chg_late hx hlt]; exact ⟨rfl, rfl, trivial⟩)
    · rcases hg : g x with ⟨y, e⟩
      by_cases he : e = 0
      · subst he
        repeat' ((conv => whnf); first | (refine ⟨fun h => ?_, fun h => ?_⟩ <;> try (exfalso; first | omega | exact absurd h (by decide) | exact h rfl | exact absurd (show true = false from h) (by decide) | exact absurd (show false = true from h) (by decide))) | (refine ⟨_, find_h, (l, id), (by show l.length ≤ 9223372036854775807; omega), leVs_of_eq rfl, .inl rfl, rfl, ?_⟩; show norm (I (ixF (idB id) l)) _; rw [q1]) | (refine ⟨by omega, fun r hrr => ?_⟩; first | ((have hre : r = encI x := by (first | exact get_row hrr hx | fail)); subst hre)) | (refine And.intro (by with_reducible assumption) ?_; refine ⟨_, hf, x, hx0, leVs_of_eq rfl, .inl rfl, rfl, ?_⟩; show norm (.tup [aI (g x).1, I (g x).2]) _; rw [hg]) | refine ⟨rfl, _, cloneI_h, l, (by show l.length ≤ 1000000; omega), leVs_of_eq rfl, trivial, ?_⟩ | refine ⟨⟨by omega, by omega⟩, ?_⟩ | fail | fail)
        all_goals (refine ⟨[], rfl, trivial, ?_⟩; show leR [L 6 ((l.map encI).set ((k : Nat) : Int).toNat (encI { y with since := t })), I 0] (resT _); rw [hC, chg_ok hx hlt hg, Int.toNat_natCast, ← List.map_set]; exact ⟨rfl, rfl, trivial⟩)
      · repeat' ((conv => whnf); first | (refine ⟨fun h => ?_, fun h => ?_⟩ <;> try (exfalso; first | omega | exact absurd h (by decide) | exact h rfl | exact absurd (show true = false from h) (by decide) | exact absurd (show false = true from h) (by decide))) | (refine ⟨_, find_h, (l, id), (by show l.length ≤ 9223372036854775807; omega), leVs_of_eq rfl, .inl rfl, rfl, ?_⟩; show norm (I (ixF (idB id) l)) _; rw [q1]) | (refine ⟨by omega, fun r hrr => ?_⟩; first | ((have hre : r = encI x := by (first | exact get_row hrr hx | fail)); subst hre)) | (refine And.intro (by with_reducible assumption) ?_; refine ⟨_, hf, x, hx0, leVs_of_eq rfl, .inl rfl, rfl, ?_⟩; show norm (.tup [aI (g x).1, I (g x).2]) _; rw [hg]) | fail | fail)
        all_goals (refine ⟨[], rfl, trivial, ?_⟩; show leR [.c .nil, I _] (resT _); rw [hC, chg_err hx hlt hg he]; exact ⟨rfl, rfl, trivial⟩)
theorem change_h : Holds Try.prog 55 changeS := holds_of mix Try.func55 changeLow (fun _ => rfl) changeV

/-! skiarea/incident.Judge -/
def judgeIr : IFn := ⟨18, [.tmp 8, .tmp 9],
  (.seq (.ops [
    ⟨(some 8), .mov, [.const (.slice none 0 0)], none⟩,
    ⟨(some 9), .mov, [.const (.int .i64 0)], none⟩] false)
  (.seq (.ops [
    ⟨(some 10), .mov, [.tmp 0], none⟩,
    ⟨(some 11), .mov, [.tmp 2], none⟩,
    ⟨(some 12), .build [.nil, .int .i64 0, .int .i64 0] [(0, 1), (1, 1)], [.tmp 10, .tmp 11], none⟩,
    ⟨(some 13), .mov, [.tmp 1], none⟩,
    ⟨(some 14), .mov, [.tmp 3], none⟩,
    ⟨(some 15), .call 55, [.tmp 12, .tmp 13, .tmp 14, .func 56], none⟩,
    ⟨(some 16), .extract 0, [.tmp 15], none⟩,
    ⟨(some 17), .extract 1, [.tmp 15], none⟩,
    ⟨(some 8), .mov, [.tmp 16], none⟩,
    ⟨(some 9), .mov, [.tmp 17], none⟩] false)
  .ret))⟩
theorem judgeLow : lowF Try.prog {} Try.f25 = some judgeIr := by kernel_rfl
def judgeS : Spec := spec (List Inc × Int × Int × Int) (fun p => [L 6 (p.1.map encI), I p.2.1, I p.2.2.1, I p.2.2.2]) (fun p => p.1.length ≤ 64) (fun p => resT (changeF (judgeF p.2.2.1) p.1 p.2.1 p.2.2.2))
theorem judgeV : fnV Try.prog judgeIr judgeS := by
  intro ⟨(l : List Inc), (id : Int), (tri : Int), (t : Int)⟩ hx
  replace hx : l.length ≤ 64 := hx
  show vc _ _ _ _ ⟨argEnv 0 [L 6 (l.map encI), I id, I tri, I t], [], 0⟩
  repeat' ((conv => whnf); first | (refine ⟨fun h => ?_, fun h => ?_⟩ <;> try (exfalso; first | omega | exact absurd h (by decide) | exact h rfl | exact absurd (show true = false from h) (by decide) | exact absurd (show false = true from h) (by decide))) | (refine ⟨_, change_h, ⟨l, tri, 0, id, t, 56, judgeF tri⟩, ⟨hx, judgeM_c, judgeM_p l tri 0⟩, leVs_of_eq rfl, .inl rfl, rfl, ?_⟩; show norm (resT (changeF (judgeF tri) l id t)) _) | fail | fail)
  exact ⟨[], rfl, trivial, leV_refl _, rfl, trivial⟩
theorem judge_h : Holds Try.prog 25 judgeS := holds_of mix Try.func25 judgeLow (fun _ => rfl) judgeV

/-! skiarea/incident.Go -/
def goIr : IFn := ⟨18, [.tmp 8, .tmp 9],
  (.seq (.ops [
    ⟨(some 8), .mov, [.const (.slice none 0 0)], none⟩,
    ⟨(some 9), .mov, [.const (.int .i64 0)], none⟩] false)
  (.seq (.ops [
    ⟨(some 10), .mov, [.tmp 0], none⟩,
    ⟨(some 11), .mov, [.tmp 2], none⟩,
    ⟨(some 12), .build [.nil, .int .i64 0, .int .i64 0] [(0, 1), (2, 1)], [.tmp 10, .tmp 11], none⟩,
    ⟨(some 13), .mov, [.tmp 1], none⟩,
    ⟨(some 14), .mov, [.tmp 3], none⟩,
    ⟨(some 15), .call 55, [.tmp 12, .tmp 13, .tmp 14, .func 57], none⟩,
    ⟨(some 16), .extract 0, [.tmp 15], none⟩,
    ⟨(some 17), .extract 1, [.tmp 15], none⟩,
    ⟨(some 8), .mov, [.tmp 16], none⟩,
    ⟨(some 9), .mov, [.tmp 17], none⟩] false)
  .ret))⟩
theorem goLow : lowF Try.prog {} Try.f26 = some goIr := by kernel_rfl
def goS : Spec := spec (List Inc × Int × Int × Int) (fun p => [L 6 (p.1.map encI), I p.2.1, I p.2.2.1, I p.2.2.2]) (fun p => p.1.length ≤ 64) (fun p => resT (changeF (sendF p.1 p.2.2.1) p.1 p.2.1 p.2.2.2))
theorem goV : fnV Try.prog goIr goS := by
  intro ⟨(l : List Inc), (id : Int), (team : Int), (t : Int)⟩ hx
  replace hx : l.length ≤ 64 := hx
  show vc _ _ _ _ ⟨argEnv 0 [L 6 (l.map encI), I id, I team, I t], [], 0⟩
  repeat' ((conv => whnf); first | (refine ⟨fun h => ?_, fun h => ?_⟩ <;> try (exfalso; first | omega | exact absurd h (by decide) | exact h rfl | exact absurd (show true = false from h) (by decide) | exact absurd (show false = true from h) (by decide))) | (refine ⟨_, change_h, ⟨l, 0, team, id, t, 57, sendF l team⟩, ⟨hx, sendM_c, sendM_p l 0 team⟩, leVs_of_eq rfl, .inl rfl, rfl, ?_⟩; show norm (resT (changeF (sendF l team) l id t)) _) | fail | fail)
  exact ⟨[], rfl, trivial, leV_refl _, rfl, trivial⟩
theorem go_h : Holds Try.prog 26 goS := holds_of mix Try.func26 goLow (fun _ => rfl) goV

/-! skiarea/incident.Move -/
def moveIr : IFn := ⟨15, [.tmp 6, .tmp 7],
  (.seq (.ops [
    ⟨(some 6), .mov, [.const (.slice none 0 0)], none⟩,
    ⟨(some 7), .mov, [.const (.int .i64 0)], none⟩] false)
  (.seq (.ops [
    ⟨(some 8), .mov, [.tmp 0], none⟩,
    ⟨(some 9), .build [.nil, .int .i64 0, .int .i64 0] [(0, 1)], [.tmp 8], none⟩,
    ⟨(some 10), .mov, [.tmp 1], none⟩,
    ⟨(some 11), .mov, [.tmp 2], none⟩,
    ⟨(some 12), .call 55, [.tmp 9, .tmp 10, .tmp 11, .func 58], none⟩,
    ⟨(some 13), .extract 0, [.tmp 12], none⟩,
    ⟨(some 14), .extract 1, [.tmp 12], none⟩,
    ⟨(some 6), .mov, [.tmp 13], none⟩,
    ⟨(some 7), .mov, [.tmp 14], none⟩] false)
  .ret))⟩
theorem moveLow : lowF Try.prog {} Try.f27 = some moveIr := by kernel_rfl
def moveS : Spec := spec (List Inc × Int × Int) (fun p => [L 6 (p.1.map encI), I p.2.1, I p.2.2]) (fun p => p.1.length ≤ 64) (fun p => resT (changeF (moveF) p.1 p.2.1 p.2.2))
theorem moveV : fnV Try.prog moveIr moveS := by
  intro ⟨(l : List Inc), (id : Int), (t : Int)⟩ hx
  replace hx : l.length ≤ 64 := hx
  show vc _ _ _ _ ⟨argEnv 0 [L 6 (l.map encI), I id, I t], [], 0⟩
  repeat' ((conv => whnf); first | (refine ⟨fun h => ?_, fun h => ?_⟩ <;> try (exfalso; first | omega | exact absurd h (by decide) | exact h rfl | exact absurd (show true = false from h) (by decide) | exact absurd (show false = true from h) (by decide))) | (refine ⟨_, change_h, ⟨l, 0, 0, id, t, 58, moveF⟩, ⟨hx, moveM_c, moveM_p l 0 0⟩, leVs_of_eq rfl, .inl rfl, rfl, ?_⟩; show norm (resT (changeF (moveF) l id t)) _) | fail | fail)
  exact ⟨[], rfl, trivial, leV_refl _, rfl, trivial⟩
theorem move_h : Holds Try.prog 27 moveS := holds_of mix Try.func27 moveLow (fun _ => rfl) moveV

end Go.Proofs.Ytoeichkblclfaaa
