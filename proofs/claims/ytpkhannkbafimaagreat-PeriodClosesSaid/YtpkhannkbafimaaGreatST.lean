/- Periods: the reference's Post, Asked and Close. -/
import Derived.Test.YtpkhannkbafimaaGreatSP
import Derived.Test.YtpkhannkbafimaaGreatArg
import Derived.Test.YtpkhannkbafimaaGreatRI
namespace Go.Proofs.YtpkhannkbafimaaGreat
open Go.RowKit

/-! skiarea/skiarearef09.Post -/
def rpostIr : IFn := ⟨40, [.tmp 4, .tmp 5],
 (.seq (.ops [
 ⟨(some 3), .box, [.tmp 1], none⟩,
 ⟨(some 4), .mov, [.const (.slice none 0 0)], none⟩,
 ⟨(some 5), .mov, [.const (.int .i64 0)], none⟩] false)
 (.seq (.seq (.ops [
 ⟨(some 10), .mov, [.tmp 0], none⟩,
 ⟨(some 11), .call 45, [.tmp 10], none⟩,
 ⟨(some 6), .mov, [.tmp 11], none⟩] false)
 (.seq (.ops [
 ⟨(some 12), .mov, [.tmp 6], none⟩,
 ⟨(some 13), .cmp .neq, [.tmp 12, .const (.int .i64 0)], none⟩] false)
 (.cond (.tmp 13)
 (.seq (.ops [
 ⟨(some 14), .mov, [.tmp 6], none⟩,
 ⟨(some 4), .mov, [.const (.slice none 0 0)], none⟩,
 ⟨(some 5), .mov, [.tmp 14], none⟩] false)
 .ret)
 .skip)))
 (.seq (.ops [
 ⟨(some 15), .mov, [.tmp 0], none⟩,
 ⟨(some 16), .append 72 4 32, [.const (.slice none 0 0), .tmp 15], none⟩,
 ⟨(some 7), .mov, [.tmp 16], none⟩] false)
 (.seq (.seq (.ops [
 ⟨(some 8), .mov, [.const (.int .i64 0)], none⟩] false)
 (.block 0
 (.loop
 (.seq (.seq (.ops [
 ⟨(some 17), .mov, [.tmp 8], none⟩,
 ⟨(some 18), .mov, [.tmp 0], none⟩,
 ⟨(some 19), .len, [.tmp 18], none⟩,
 ⟨(some 20), .cmp .lss, [.tmp 17, .tmp 19], none⟩] false)
 (.cond (.tmp 20)
 .skip
 (.exit 0)))
 (.seq (.block 1
 (.seq (.ops [
 ⟨(some 23), .mov, [.tmp 0], none⟩,
 ⟨(some 24), .mov, [.tmp 8], none⟩,
 ⟨(some 25), .idx 4, [.tmp 23, .tmp 24], none⟩,
 ⟨(some 26), .load 4 true, [.tmp 25], none⟩,
 ⟨(some 27), .load 4 true, [.tmp 3], none⟩,
 ⟨(some 28), .eqa [false, false, false, false] false, [.tmp 26, .tmp 27], none⟩] true)
 (.cond (.tmp 28)
 (.seq (.ops [
 ⟨(some 29), .mov, [.tmp 7], none⟩,
 ⟨(some 4), .mov, [.tmp 29], none⟩,
 ⟨(some 5), .mov, [.const (.int .i64 0)], none⟩] false)
 .ret)
 .skip)))
 (.ops [
 ⟨(some 21), .mov, [.tmp 8], none⟩,
 ⟨(some 22), .bin .add .i64 false, [.tmp 21, .const (.int .i64 1)], none⟩,
 ⟨(some 8), .mov, [.tmp 22], none⟩] false))))))
 (.seq (.ops [
 ⟨(some 30), .mov, [.tmp 7], none⟩,
 ⟨(some 31), .load 4 true, [.tmp 3], none⟩,
 ⟨(some 32), .buildSl 72 4, [.tmp 31], none⟩,
 ⟨(some 33), .append 72 4 32, [.tmp 30, .tmp 32], none⟩,
 ⟨(some 7), .mov, [.tmp 33], none⟩] false)
 (.seq (.seq (.ops [
 ⟨(some 34), .mov, [.tmp 7], none⟩,
 ⟨(some 35), .call 45, [.tmp 34], none⟩,
 ⟨(some 9), .mov, [.tmp 35], none⟩] false)
 (.seq (.ops [
 ⟨(some 36), .mov, [.tmp 9], none⟩,
 ⟨(some 37), .cmp .neq, [.tmp 36, .const (.int .i64 0)], none⟩] false)
 (.cond (.tmp 37)
 (.seq (.ops [
 ⟨(some 38), .mov, [.tmp 9], none⟩,
 ⟨(some 4), .mov, [.const (.slice none 0 0)], none⟩,
 ⟨(some 5), .mov, [.tmp 38], none⟩] false)
 .ret)
 .skip)))
 (.seq (.ops [
 ⟨(some 39), .mov, [.tmp 7], none⟩,
 ⟨(some 4), .mov, [.tmp 39], none⟩,
 ⟨(some 5), .mov, [.const (.int .i64 0)], none⟩] false)
 .ret)))))))⟩
theorem rpostLow : lowF Tryz.prog {} Tryz.f74 = some rpostIr := by kernel_rfl
def rpostS : Spec := ⟨List Pst × Pst, fun p => [L 4 (p.1.map encO), aO p.2], fun p => p.1.length ≤ 900000, fun p => postR p.1 p.2, fun p => postOb p.1 p.2⟩
set_option maxHeartbeats 1000000 in
theorem rpostV : fnV Tryz.prog rpostIr rpostS := by
  intro ⟨(l : List Pst), (p : Pst)⟩ hx
  replace hx : l.length ≤ 900000 := hx
  have hl : (l.map encO).length = l.length := List.length_map ..
  show vc _ _ _ _ ⟨argEnv 0 [L 4 (l.map encO), aO p], [], 0⟩
  by_cases h1 : ledR l ≠ 0
  · have hP : postF l p = ([], ledR l) := if_pos h1
    have hq : ¬ (([], ledR l) : List Pst × Int).2 = 0 := h1
    repeat' ((conv => whnf); first | (refine ⟨fun h => ?_, fun h => ?_⟩ <;> try (exfalso; first | omega | exact absurd h (by decide) | exact h rfl | exact absurd (show true = false from h) (by decide) | exact absurd (show false = true from h) (by decide))) | (refine ⟨_, rlright_h, l, (by show List.length (l) ≤ _; first | omega | (rw [List.length_append]; simp only [List.length_cons, List.length_nil]; omega)), ⟨leV_refl _, trivial⟩, .inr rfl, rfl, ?_⟩; show norm (I (ledR (l))) _) | fail | fail)
    all_goals (refine ⟨[], rfl, ?_, ?_⟩; (show obsOk _ _ (postOb l p); unfold postOb; rw [hP, if_neg hq]; trivial); (show leR _ (postR l p); unfold postR; rw [hP, if_neg hq]; exact ⟨rfl, rfl, trivial⟩))
  repeat' ((conv => whnf); first | (refine ⟨fun h => ?_, fun h => ?_⟩ <;> try (exfalso; first | omega | exact absurd h (by decide) | exact h rfl | exact absurd (show true = false from h) (by decide) | exact absurd (show false = true from h) (by decide))) | (refine ⟨_, rlright_h, l, (by show List.length (l) ≤ _; first | omega | (rw [List.length_append]; simp only [List.length_cons, List.length_nil]; omega)), ⟨leV_refl _, trivial⟩, .inr rfl, rfl, ?_⟩; show norm (I (ledR (l))) _) | refine ⟨⟨by omega, by omega⟩, ?_⟩ | fail | fail)
  refine ⟨Nat, fun xq => ⟨[(0, L 4 (l.map encO)), (3, .bp 0 0), (7, .osl 1), (8, I xq)], [(0, .box ((encO p).map .c)), (1, .row 72 4 (l.map encO))], 2⟩, fun xq => xq ≤ l.length ∧ p ∉ l.take xq, fun xq => l.length - xq, ⟨0, ?_, [], ⟨⟨rfl, rfl⟩, ⟨⟨rfl, rfl⟩, ⟨⟨rfl, rfl⟩, ⟨⟨rfl, rfl⟩, trivial⟩⟩⟩⟩, ⟨⟨rfl, rfl, rfl⟩, ⟨⟨rfl, rfl, rfl⟩, trivial⟩⟩, rfl, rfl, rfl⟩, ?_⟩
  · (try dsimp only); exact ⟨Nat.zero_le _, by simp⟩
  rintro k hk
  obtain ⟨hk, hn⟩ : k ≤ l.length ∧ p ∉ l.take k := hk
  (try dsimp only)
  by_cases hkl : k < l.length
  · obtain ⟨x, hx'⟩ := getElem_some hkl
    by_cases hc : x.ref = p.ref ∧ x.fr = p.fr ∧ x.to = p.to ∧ x.am = p.am ∧ True
    · have hxp := pst_ext hc
      have hA : addF l p = l := if_pos (by rw [← hxp]; exact List.mem_of_getElem? hx')
      have hP : postF l p = (l, 0) := by unfold postF; rw [if_neg h1, hA, if_neg h1]
      repeat' ((conv => whnf); first | (refine ⟨fun h => ?_, fun h => ?_⟩ <;> try (exfalso; first | omega | exact absurd h (by decide) | exact h rfl | contradiction | exact absurd (show true = false from h) (by decide) | exact absurd (show false = true from h) (by decide))) | (refine ⟨by omega, fun r hrr => ?_⟩; first | ((have hre : r = encO x := by (first | exact get_row hrr hx' | fail)); subst hre)) | fail | fail)
      all_goals conv => whnf
      refine ⟨[1], rfl, ?_, ?_⟩
      · show obsOk _ _ (postOb l p)
        unfold postOb
        rw [hP, if_pos rfl]
        exact ⟨⟨rfl, _, _, _, rfl⟩, trivial⟩
      · show leR _ (postR l p)
        unfold postR
        rw [hP, if_pos rfl]
        exact ⟨rfl, rfl, trivial⟩
    · repeat' ((conv => whnf); first | (refine ⟨fun h => ?_, fun h => ?_⟩ <;> try (exfalso; first | omega | exact absurd h (by decide) | exact h rfl | contradiction | exact absurd (show true = false from h) (by decide) | exact absurd (show false = true from h) (by decide))) | (refine ⟨by omega, fun r hrr => ?_⟩; first | ((have hre : r = encO x := by (first | exact get_row hrr hx' | fail)); subst hre)) | (refine ⟨k + 1, ⟨?_, by (try dsimp only); omega⟩, [], ⟨⟨rfl, rfl⟩, ⟨⟨rfl, rfl⟩, ⟨⟨rfl, rfl⟩, ⟨⟨rfl, rfl⟩, trivial⟩⟩⟩⟩, ⟨⟨rfl, rfl, rfl⟩, ⟨⟨rfl, rfl, rfl⟩, trivial⟩⟩, rfl, rfl, rfl⟩; (try dsimp only); exact ⟨by omega, fun hm => by rw [take_snoc _ _ _ hx', List.mem_append, List.mem_singleton] at hm; exact hm.elim hn fun e => pst_ne hc e.symm⟩) | refine ⟨⟨by omega, by omega⟩, ?_⟩ | fail)
  · rw [take_end hkl] at hn
    have hA : addF l p = l ++ [p] := if_neg hn
    by_cases h2 : ledR (l ++ [p]) ≠ 0
    · have hP : postF l p = ([], ledR (l ++ [p])) := by unfold postF; rw [if_neg h1, hA, if_pos h2]
      have hq : ¬ (([], ledR (l ++ [p])) : List Pst × Int).2 = 0 := h2
      repeat' ((conv => whnf); (try dsimp only [setL, List.map_cons, List.map_nil, List.take, List.drop, SV.cells, constV, shift, St.new, St.put, kills, killI, Nat.reduceAdd]); first | (refine ⟨fun h => ?_, fun h => ?_⟩ <;> try (exfalso; first | omega | exact absurd h (by decide) | exact h rfl | exact absurd (show true = false from h) (by decide) | exact absurd (show false = true from h) (by decide))) | (refine ⟨_, rlright_h, l ++ [p], (by show List.length (l ++ [p]) ≤ _; first | omega | (rw [List.length_append]; simp only [List.length_cons, List.length_nil]; omega)), ⟨(by show leV (L 4 (l.map encO ++ [encO p])) (L 4 ((l ++ [p]).map encO)); rw [List.map_append]; exact leV_refl _), trivial⟩, .inr rfl, rfl, ?_⟩; show norm (I (ledR (l ++ [p]))) _) | (refine ⟨⟨by first | omega | (simp only [List.length_nil]; omega) | (simp only [List.length_cons, List.length_nil]; omega), by first | omega | (simp only [List.length_nil]; omega) | (simp only [List.length_cons, List.length_nil]; omega)⟩, ?_⟩) | fail | fail)
      all_goals conv => whnf
      all_goals (refine ⟨[], rfl, ?_, ?_⟩; (show obsOk _ _ (postOb l p); unfold postOb; rw [hP, if_neg hq]; trivial); (show leR _ (postR l p); unfold postR; rw [hP, if_neg hq]; exact ⟨rfl, rfl, trivial⟩))
    · have hP : postF l p = (l ++ [p], 0) := by unfold postF; rw [if_neg h1, hA, if_neg h2]
      repeat' ((conv => whnf); (try dsimp only [setL, List.map_cons, List.map_nil, List.take, List.drop, SV.cells, constV, shift, St.new, St.put, kills, killI, Nat.reduceAdd]); first | (refine ⟨fun h => ?_, fun h => ?_⟩ <;> try (exfalso; first | omega | exact absurd h (by decide) | exact h rfl | exact absurd (show true = false from h) (by decide) | exact absurd (show false = true from h) (by decide))) | (refine ⟨_, rlright_h, l ++ [p], (by show List.length (l ++ [p]) ≤ _; first | omega | (rw [List.length_append]; simp only [List.length_cons, List.length_nil]; omega)), ⟨(by show leV (L 4 (l.map encO ++ [encO p])) (L 4 ((l ++ [p]).map encO)); rw [List.map_append]; exact leV_refl _), trivial⟩, .inr rfl, rfl, ?_⟩; show norm (I (ledR (l ++ [p]))) _) | (refine ⟨⟨by first | omega | (simp only [List.length_nil]; omega) | (simp only [List.length_cons, List.length_nil]; omega), by first | omega | (simp only [List.length_nil]; omega) | (simp only [List.length_cons, List.length_nil]; omega)⟩, ?_⟩) | fail | fail)
      all_goals conv => whnf
      refine ⟨[2], rfl, ?_, ?_⟩
      · show obsOk _ _ (postOb l p)
        unfold postOb
        rw [hP, if_pos rfl]
        refine ⟨⟨?_, _, _, _, rfl⟩, trivial⟩
        show some (Ob.row _ 4 (l.map encO ++ [encO p])) = some (Ob.row _ 4 ((l ++ [p]).map encO))
        rw [List.map_append]
        rfl
      · show leR _ (postR l p)
        unfold postR
        rw [hP, if_pos rfl]
        exact ⟨rfl, rfl, trivial⟩
theorem rpost_h : Holds Tryz.prog 74 rpostS := holds_of mix Tryz.func74 rpostLow (fun _ => rfl) rpostV

/-! skiarea/skiarearef38.Asked -/
def askedIr : IFn := ⟨38, [.tmp 8],
 (.seq (.ops [
 ⟨(some 4), .box, [.tmp 0], none⟩,
 ⟨(some 8), .mov, [.const (.int .i64 0)], none⟩] false)
 (.seq (.seq (.ops [
 ⟨(some 9), .mov, [.tmp 1], none⟩,
 ⟨(some 10), .cmp .lss, [.tmp 9, .const (.int .i64 1)], none⟩,
 ⟨(some 11), .mov, [.tmp 10], none⟩,
 ⟨(some 12), .mov, [.tmp 1], (some (11, false))⟩,
 ⟨(some 13), .faddr 0, [.tmp 4], (some (11, false))⟩,
 ⟨(some 14), .load 1 false, [.tmp 13], (some (11, false))⟩,
 ⟨(some 15), .len, [.tmp 14], (some (11, false))⟩,
 ⟨(some 16), .cmp .gtr, [.tmp 12, .tmp 15], (some (11, false))⟩,
 ⟨(some 17), .pick, [.tmp 11, .const (.bool true), .tmp 16], none⟩] false)
 (.cond (.tmp 17)
 (.seq (.ops [
 ⟨(some 8), .mov, [.const (.int .i64 8)], none⟩] false)
 .ret)
 .skip))
 (.seq (.seq (.ops [
 ⟨(some 18), .faddr 0, [.tmp 4], none⟩,
 ⟨(some 19), .load 1 false, [.tmp 18], none⟩,
 ⟨(some 20), .call 52, [.tmp 19], none⟩,
 ⟨(some 21), .mov, [.tmp 1], none⟩,
 ⟨(some 22), .cmp .neq, [.tmp 20, .tmp 21], none⟩] false)
 (.cond (.tmp 22)
 (.seq (.ops [
 ⟨(some 8), .mov, [.const (.int .i64 10)], none⟩] false)
 .ret)
 .skip))
 (.seq (.seq (.ops [
 ⟨(some 23), .mov, [.tmp 2], none⟩,
 ⟨(some 24), .call 71, [.tmp 23], none⟩,
 ⟨(some 25), .not, [.tmp 24], none⟩,
 ⟨(some 26), .mov, [.tmp 25], none⟩,
 ⟨(some 27), .mov, [.tmp 3], (some (26, false))⟩,
 ⟨(some 28), .call 71, [.tmp 27], (some (26, false))⟩,
 ⟨(some 29), .not, [.tmp 28], (some (26, false))⟩,
 ⟨(some 30), .pick, [.tmp 26, .const (.bool true), .tmp 29], none⟩,
 ⟨(some 31), .mov, [.tmp 30], none⟩,
 ⟨(some 32), .mov, [.tmp 2], (some (31, false))⟩,
 ⟨(some 33), .mov, [.tmp 3], (some (31, false))⟩,
 ⟨(some 34), .call 30, [.tmp 32, .tmp 33], (some (31, false))⟩,
 ⟨(some 35), .call 72, [.tmp 34], (some (31, false))⟩,
 ⟨(some 36), .cmp .neq, [.tmp 35, .const (.int .i64 0)], (some (31, false))⟩,
 ⟨(some 37), .pick, [.tmp 31, .const (.bool true), .tmp 36], none⟩] false)
 (.cond (.tmp 37)
 (.seq (.ops [
 ⟨(some 8), .mov, [.const (.int .i64 1)], none⟩] false)
 .ret)
 .skip))
 (.seq (.ops [
 ⟨(some 8), .mov, [.const (.int .i64 0)], none⟩] false)
 .ret)))))⟩
theorem askedLow : lowF Tryz.prog {} Tryz.f33 = some askedIr := by kernel_rfl
def askedS : Spec := spec (Bk × Int × List Share × List Share) (fun p => [aB p.1, I p.2.1, L 2 (p.2.2.1.map encS), L 2 (p.2.2.2.map encS)]) (fun p => okB p.1 ∧ p.2.2.1.length ≤ 9223372036854775807 ∧ p.2.2.2.length ≤ 9223372036854775807) (fun p => I (askE p.1 p.2.1 p.2.2.1 p.2.2.2))
theorem askedV : fnV Tryz.prog askedIr askedS := by
  intro ⟨(b : Bk), (n : Int), (due : List Share), (rec : List Share)⟩ hp
  obtain ⟨hb, hdl, hrl⟩ : okB b ∧ due.length ≤ 9223372036854775807 ∧ rec.length ≤ 9223372036854775807 := hp
  obtain ⟨⟨hb1, hb2⟩, hb3, hb4⟩ := hb
  have hlp : (b.ps.map encP).length = b.ps.length := List.length_map ..
  have hlo : (b.po.map encO).length = b.po.length := List.length_map ..
  have hlr : (b.rs.map encC).length = b.rs.length := List.length_map ..
  have hE : askE b n due rec = if n < 1 ∨ (b.ps.length : Int) < n then 8 else if n ≠ firstN b.ps then 10 else if accB due = false ∨ accB rec = false ∨ rightF (posL due rec) ≠ 0 then 1 else 0 := rfl
  show vc _ _ _ _ ⟨argEnv 0 [aB b, I n, L 2 (due.map encS), L 2 (rec.map encS)], [], 0⟩
  by_cases h1 : n < 1 ∨ (b.ps.length : Int) < n
  · rw [if_pos h1] at hE
    repeat' ((conv => whnf); first | (refine ⟨fun h => ?_, fun h => ?_⟩ <;> try (exfalso; first | omega | exact absurd h (by decide) | exact h rfl | exact absurd (show true = false from h) (by decide) | exact absurd (show false = true from h) (by decide))) | fail | fail)
    all_goals (refine ⟨[], rfl, trivial, congrArg (CV.int .i64) ?_⟩; exact (hE).symm)
  rw [if_neg h1] at hE
  by_cases h2 : n ≠ firstN b.ps
  · rw [if_pos h2] at hE
    repeat' ((conv => whnf); first | (refine ⟨fun h => ?_, fun h => ?_⟩ <;> try (exfalso; first | omega | exact absurd h (by decide) | exact h rfl | exact absurd (show true = false from h) (by decide) | exact absurd (show false = true from h) (by decide))) | (refine ⟨_, rfirst_h, b.ps, hb1, leVs_of_eq rfl, .inl rfl, rfl, ?_⟩; show norm (I (firstN b.ps)) _) | fail | fail)
    all_goals (refine ⟨[], rfl, trivial, congrArg (CV.int .i64) ?_⟩; exact (hE).symm)
  rw [if_neg h2] at hE
  cases d1 : accB due with
  | false =>
    rw [if_pos (.inl d1)] at hE
    repeat' ((conv => whnf); first | (refine ⟨fun h => ?_, fun h => ?_⟩ <;> try (exfalso; first | omega | exact absurd h (by decide) | exact h rfl | exact absurd (show true = false from h) (by decide) | exact absurd (show false = true from h) (by decide))) | (refine ⟨_, rfirst_h, b.ps, hb1, leVs_of_eq rfl, .inl rfl, rfl, ?_⟩; show norm (I (firstN b.ps)) _) | (refine ⟨_, racc_h, due, hdl, leVs_of_eq rfl, .inl rfl, rfl, ?_⟩; show norm (B (accB due)) _; rw [d1]) | fail | fail)
    all_goals (refine ⟨[], rfl, trivial, congrArg (CV.int .i64) ?_⟩; exact (hE).symm)
  | true =>
  cases d2 : accB rec with
  | false =>
    rw [if_pos (.inr (.inl d2))] at hE
    repeat' ((conv => whnf); first | (refine ⟨fun h => ?_, fun h => ?_⟩ <;> try (exfalso; first | omega | exact absurd h (by decide) | exact h rfl | exact absurd (show true = false from h) (by decide) | exact absurd (show false = true from h) (by decide))) | (refine ⟨_, rfirst_h, b.ps, hb1, leVs_of_eq rfl, .inl rfl, rfl, ?_⟩; show norm (I (firstN b.ps)) _) | (refine ⟨_, racc_h, due, hdl, leVs_of_eq rfl, .inl rfl, rfl, ?_⟩; show norm (B (accB due)) _; rw [d1]) | (refine ⟨_, racc_h, rec, hrl, leVs_of_eq rfl, .inl rfl, rfl, ?_⟩; show norm (B (accB rec)) _; rw [d2]) | fail | fail)
    all_goals (refine ⟨[], rfl, trivial, congrArg (CV.int .i64) ?_⟩; exact (hE).symm)
  | true =>
  have hpl8 : (posL due rec).length ≤ 8 := by unfold posL; rw [List.length_map]; exact posK_len due rec
  have hpl : (posL due rec).length ≤ 9223372036854775807 := by omega
  by_cases d3 : rightF (posL due rec) ≠ 0
  · rw [if_pos (.inr (.inr d3))] at hE
    repeat' ((conv => whnf); first | (refine ⟨fun h => ?_, fun h => ?_⟩ <;> try (exfalso; first | omega | exact absurd h (by decide) | exact h rfl | exact absurd (show true = false from h) (by decide) | exact absurd (show false = true from h) (by decide))) | (refine ⟨_, rfirst_h, b.ps, hb1, leVs_of_eq rfl, .inl rfl, rfl, ?_⟩; show norm (I (firstN b.ps)) _) | (refine ⟨_, racc_h, due, hdl, leVs_of_eq rfl, .inl rfl, rfl, ?_⟩; show norm (B (accB due)) _; rw [d1]) | (refine ⟨_, racc_h, rec, hrl, leVs_of_eq rfl, .inl rfl, rfl, ?_⟩; show norm (B (accB rec)) _; rw [d2]) | (refine ⟨_, rposit_h, (due, rec), ⟨d1, d2⟩, leVs_of_eq rfl, .inl rfl, rfl, ?_⟩; show norm (L 2 ((posL due rec).map encS)) _) | (refine ⟨_, rright_h, posL due rec, hpl, leVs_of_eq rfl, .inl rfl, rfl, ?_⟩; show norm (I (rightF (posL due rec))) _) | fail | fail)
    all_goals (refine ⟨[], rfl, trivial, congrArg (CV.int .i64) ?_⟩; exact (hE).symm)
  · rw [if_neg (fun h => by rcases h with h | h | h; (rw [d1] at h; cases h); (rw [d2] at h; cases h); exact d3 h)] at hE
    repeat' ((conv => whnf); first | (refine ⟨fun h => ?_, fun h => ?_⟩ <;> try (exfalso; first | omega | exact absurd h (by decide) | exact h rfl | exact absurd (show true = false from h) (by decide) | exact absurd (show false = true from h) (by decide))) | (refine ⟨_, rfirst_h, b.ps, hb1, leVs_of_eq rfl, .inl rfl, rfl, ?_⟩; show norm (I (firstN b.ps)) _) | (refine ⟨_, racc_h, due, hdl, leVs_of_eq rfl, .inl rfl, rfl, ?_⟩; show norm (B (accB due)) _; rw [d1]) | (refine ⟨_, racc_h, rec, hrl, leVs_of_eq rfl, .inl rfl, rfl, ?_⟩; show norm (B (accB rec)) _; rw [d2]) | (refine ⟨_, rposit_h, (due, rec), ⟨d1, d2⟩, leVs_of_eq rfl, .inl rfl, rfl, ?_⟩; show norm (L 2 ((posL due rec).map encS)) _) | (refine ⟨_, rright_h, posL due rec, hpl, leVs_of_eq rfl, .inl rfl, rfl, ?_⟩; show norm (I (rightF (posL due rec))) _) | fail | fail)
    all_goals (refine ⟨[], rfl, trivial, congrArg (CV.int .i64) ?_⟩; exact (hE).symm)
theorem asked_h : Holds Tryz.prog 33 askedS := holds_of mix Tryz.func33 askedLow (fun _ => rfl) askedV

/-! skiarea/skiarealaw38.transfers -/
def transfIr : IFn := ⟨45, [.tmp 4, .tmp 5],
 (.seq (.ops [
 ⟨(some 4), .mov, [.const (.slice none 0 0)], none⟩,
 ⟨(some 5), .mov, [.const (.bool false)], none⟩] false)
 (.seq (.ops [
 ⟨(some 6), .nilOwn 68 3, [], none⟩] false)
 (.seq (.seq (.ops [
 ⟨(some 7), .mov, [.const (.int .i64 0)], none⟩] false)
 (.block 0
 (.loop
 (.seq (.seq (.ops [
 ⟨(some 8), .mov, [.tmp 7], none⟩,
 ⟨(some 9), .mov, [.tmp 0], none⟩,
 ⟨(some 10), .len, [.tmp 9], none⟩,
 ⟨(some 11), .cmp .lss, [.tmp 8, .tmp 10], none⟩] false)
 (.cond (.tmp 11)
 .skip
 (.exit 0)))
 (.seq (.block 1
 (.seq (.seq (.ops [
 ⟨(some 14), .mov, [.tmp 0], none⟩,
 ⟨(some 15), .mov, [.tmp 7], none⟩,
 ⟨(some 16), .idx 4, [.tmp 14, .tmp 15], none⟩,
 ⟨(some 17), .faddr 0, [.tmp 16], none⟩,
 ⟨(some 18), .load 1 false, [.tmp 17], none⟩,
 ⟨(some 19), .mov, [.tmp 1], none⟩,
 ⟨(some 20), .bin .mul .i64 false, [.tmp 19, .const (.int .i64 100)], none⟩,
 ⟨(some 21), .mov, [.tmp 7], none⟩,
 ⟨(some 22), .bin .add .i64 false, [.tmp 20, .tmp 21], none⟩,
 ⟨(some 23), .bin .add .i64 false, [.tmp 22, .const (.int .i64 1)], none⟩,
 ⟨(some 24), .cmp .neq, [.tmp 18, .tmp 23], none⟩] false)
 (.cond (.tmp 24)
 (.seq (.ops [
 ⟨(some 4), .mov, [.const (.slice none 0 0)], none⟩,
 ⟨(some 5), .mov, [.const (.bool false)], none⟩] false)
 .ret)
 .skip))
 (.ops [
 ⟨(some 25), .mov, [.tmp 6], none⟩,
 ⟨(some 26), .mov, [.tmp 0], none⟩,
 ⟨(some 27), .mov, [.tmp 7], none⟩,
 ⟨(some 28), .idx 4, [.tmp 26, .tmp 27], none⟩,
 ⟨(some 29), .faddr 1, [.tmp 28], none⟩,
 ⟨(some 30), .load 1 false, [.tmp 29], none⟩,
 ⟨(some 31), .mov, [.tmp 0], none⟩,
 ⟨(some 32), .mov, [.tmp 7], none⟩,
 ⟨(some 33), .idx 4, [.tmp 31, .tmp 32], none⟩,
 ⟨(some 34), .faddr 2, [.tmp 33], none⟩,
 ⟨(some 35), .load 1 false, [.tmp 34], none⟩,
 ⟨(some 36), .mov, [.tmp 0], none⟩,
 ⟨(some 37), .mov, [.tmp 7], none⟩,
 ⟨(some 38), .idx 4, [.tmp 36, .tmp 37], none⟩,
 ⟨(some 39), .faddr 3, [.tmp 38], none⟩,
 ⟨(some 40), .load 1 false, [.tmp 39], none⟩,
 ⟨(some 41), .build [.int .i64 0, .int .i64 0, .int .i64 0] [(0, 1), (1, 1), (2, 1)], [.tmp 30, .tmp 35, .tmp 40], none⟩,
 ⟨(some 42), .buildSl 68 3, [.tmp 41], none⟩,
 ⟨(some 43), .append 68 3 24, [.tmp 25, .tmp 42], none⟩,
 ⟨(some 6), .mov, [.tmp 43], none⟩] true)))
 (.ops [
 ⟨(some 12), .mov, [.tmp 7], none⟩,
 ⟨(some 13), .bin .add .i64 false, [.tmp 12, .const (.int .i64 1)], none⟩,
 ⟨(some 7), .mov, [.tmp 13], none⟩] false))))))
 (.seq (.ops [
 ⟨(some 44), .mov, [.tmp 6], none⟩,
 ⟨(some 4), .mov, [.tmp 44], none⟩,
 ⟨(some 5), .mov, [.const (.bool true)], none⟩] false)
 .ret))))⟩
theorem transfLow : lowF Tryz.prog { owns := [(6, 68)] } Tryz.f38 = some transfIr := by kernel_rfl
def transfS : Spec := spec (Int × List Tfer) (fun p => [L 4 ((refsF p.1 0 p.2).map encO), I p.1]) (fun p => (1 ≤ p.1 ∧ p.1 ≤ 1000) ∧ p.2.length ≤ 100) (fun p => .tup [L 3 (p.2.map encT), B true])
theorem transfV : fnV Tryz.prog transfIr transfS := by
  intro ⟨(n : Int), (T : List Tfer)⟩ hx
  obtain ⟨⟨h1, h2⟩, hT⟩ : (1 ≤ n ∧ n ≤ 1000) ∧ T.length ≤ 100 := hx
  have hl : ((refsF n 0 T).map encO).length = T.length := by rw [List.length_map, refsF_len]
  show vc _ _ _ _ ⟨argEnv 0 [L 4 ((refsF n 0 T).map encO), I n], [], 0⟩
  conv => whnf
  refine ⟨Nat, fun xq => ⟨[(0, L 4 ((refsF n 0 T).map encO)), (1, I n), (6, .osl 0), (7, I xq)], [(0, .row 68 3 ((T.take xq).map encT))], 1⟩, fun xq => xq ≤ T.length, fun xq => T.length - xq, ⟨0, ?_, [], ⟨⟨rfl, rfl⟩, ⟨⟨rfl, rfl⟩, ⟨⟨rfl, rfl⟩, ⟨⟨rfl, rfl⟩, trivial⟩⟩⟩⟩, ⟨⟨rfl, rfl, rfl⟩, trivial⟩, rfl, rfl, rfl⟩, ?_⟩
  · (try dsimp only); exact Nat.zero_le _
  rintro k hk
  obtain hk : k ≤ T.length := hk
  (try dsimp only)
  have hlt : ((T.take k).map encT).length = k := by rw [List.length_map, List.length_take]; omega
  by_cases hkl : k < T.length
  · obtain ⟨x, hx⟩ := getElem_some hkl
    have hy : (refsF n 0 T)[k]? = some (refP n (0 + k) x) := by rw [refsF_get, hx]; rfl
    have hro : ∀ r, ((refsF n 0 T).map encO)[((k : Nat) : Int).toNat]? = some r → r = [CV.int .i64 (n * 100 + (k : Nat) + 1), .int .i64 x.f, .int .i64 x.t, .int .i64 x.a] := by
      intro r hr
      rw [Int.toNat_natCast, List.getElem?_map, hy] at hr
      cases hr
      show encO (refP n (0 + k) x) = _
      rw [Nat.zero_add]
      rfl
    have hs : (T.take k).map encT ++ [[CV.int .i64 x.f, .int .i64 x.t, .int .i64 x.a]] = (T.take (k + 1)).map encT := by rw [take_snoc _ _ _ hx, List.map_append]; rfl
    repeat' ((conv => whnf); first | (refine ⟨fun h => ?_, fun h => ?_⟩ <;> try (exfalso; first | omega | exact absurd h (by decide) | exact h rfl | exact absurd (show true = false from h) (by decide) | exact absurd (show false = true from h) (by decide))) | (refine ⟨by omega, fun r hrr => ?_⟩; (have hre := hro r hrr); subst hre) | (refine ⟨⟨by first | omega | (simp only [List.length_nil]; omega) | (simp only [List.length_cons, List.length_nil]; omega), by first | omega | (simp only [List.length_nil]; omega) | (simp only [List.length_cons, List.length_nil]; omega)⟩, ?_⟩) | (refine ⟨k + 1, ⟨?_, by (try dsimp only); omega⟩, [(0, 1)], ⟨⟨rfl, rfl⟩, ⟨⟨rfl, rfl⟩, ⟨⟨rfl, rfl⟩, ⟨⟨rfl, rfl⟩, trivial⟩⟩⟩⟩, ⟨⟨congrArg (fun es => some (Ob.row 68 3 es)) hs, rfl, rfl⟩, trivial⟩, rfl, rfl, rfl⟩; (try dsimp only); omega) | (refine ⟨⟨by omega, by omega⟩, ?_⟩) | fail)
  · repeat' ((conv => whnf); first | (refine ⟨fun h => ?_, fun h => ?_⟩ <;> try (exfalso; first | omega | exact absurd h (by decide) | exact h rfl | exact absurd (show true = false from h) (by decide) | exact absurd (show false = true from h) (by decide))) | fail | fail)
    conv => whnf
    refine ⟨[], rfl, trivial, ?_⟩
    show leR [L 3 ((T.take k).map encT), B true] (.tup [L 3 (T.map encT), B true])
    rw [take_end hkl]
    exact ⟨rfl, rfl, trivial⟩
theorem transf_h : Holds Tryz.prog 38 transfS := holds_of mix Tryz.func38 transfLow (fun _ => rfl) transfV

def rcloT (due rec : List Share) : List Tfer := rnetF (posL due rec)
structure RclP (b : Bk) (n : Int) (due rec : List Share) : Prop where
  sm : smB b
  po : b.po.length ≤ 800000
  ask : askE b n due rec = 0
  ok : (postAll n 0 (rcloT due rec) b.po).2 = 0
def rclB (b : Bk) (n : Int) (due rec : List Share) : Bk := ⟨b.ps.set (n - 1).toNat (shut (at_ b.ps per0 (n - 1).toNat) due), (postAll n 0 (rcloT due rec) b.po).1, b.rs⟩

/-! skiarea/skiarearef38.Close -/
def rcloseIr : IFn := ⟨86, [.cell 8 3 true, .tmp 9],
 (.seq (.ops [
 ⟨(some 4), .box, [.tmp 0], none⟩,
 ⟨(some 8), .alloc [.nil, .nil, .nil], [], none⟩,
 ⟨(some 9), .mov, [.const (.int .i64 0)], none⟩] false)
 (.seq (.seq (.ops [
 ⟨(some 16), .load 3 true, [.tmp 4], none⟩,
 ⟨(some 17), .mov, [.tmp 1], none⟩,
 ⟨(some 18), .mov, [.tmp 2], none⟩,
 ⟨(some 19), .mov, [.tmp 3], none⟩,
 ⟨(some 20), .call 33, [.tmp 16, .tmp 17, .tmp 18, .tmp 19], none⟩,
 ⟨(some 10), .mov, [.tmp 20], none⟩] false)
 (.seq (.ops [
 ⟨(some 21), .mov, [.tmp 10], none⟩,
 ⟨(some 22), .cmp .neq, [.tmp 21, .const (.int .i64 0)], none⟩] false)
 (.cond (.tmp 22)
 (.seq (.ops [
 ⟨(some 23), .build [.nil, .nil, .nil] [], [], none⟩,
 ⟨(some 24), .mov, [.tmp 10], none⟩,
 ⟨none, .store 3, [.tmp 8, .tmp 23], none⟩,
 ⟨(some 9), .mov, [.tmp 24], none⟩] false)
 .ret)
 .skip)))
 (.seq (.ops [
 ⟨(some 25), .load 3 true, [.tmp 4], none⟩,
 ⟨(some 26), .callo 51, [.tmp 25], none⟩,
 ⟨(some 11), .alloc [.nil, .nil, .nil], [], none⟩,
 ⟨none, .store 3, [.tmp 11, .tmp 26], none⟩] false)
 (.seq (.ops [
 ⟨(some 27), .faddr 0, [.tmp 11], none⟩,
 ⟨(some 28), .load 1 false, [.tmp 27], none⟩,
 ⟨(some 29), .mov, [.tmp 1], none⟩,
 ⟨(some 30), .bin .sub .i64 false, [.tmp 29, .const (.int .i64 1)], none⟩,
 ⟨(some 31), .idx 5, [.tmp 28, .tmp 30], none⟩,
 ⟨(some 32), .faddr 3, [.tmp 31], none⟩,
 ⟨none, .store 1, [.tmp 32, .const (.bool true)], none⟩] false)
 (.seq (.ops [
 ⟨(some 33), .faddrB 0, [.tmp 11], none⟩,
 ⟨(some 34), .loadB 1 false, [.tmp 33], none⟩,
 ⟨(some 35), .mov, [.tmp 1], none⟩,
 ⟨(some 36), .bin .sub .i64 false, [.tmp 35, .const (.int .i64 1)], none⟩,
 ⟨(some 37), .buildOwn 58 2, [], none⟩,
 ⟨(some 38), .mov, [.tmp 2], none⟩,
 ⟨(some 39), .append 58 2 16, [.tmp 37, .tmp 38], none⟩,
 ⟨(some 40), .idx 5, [.tmp 34, .tmp 36], none⟩,
 ⟨(some 41), .faddr 4, [.tmp 40], none⟩,
 ⟨none, .store 1, [.tmp 41, .tmp 39], none⟩] true)
 (.seq (.ops [
 ⟨(some 42), .mov, [.tmp 2], none⟩,
 ⟨(some 43), .mov, [.tmp 3], none⟩,
 ⟨(some 44), .call 30, [.tmp 42, .tmp 43], none⟩,
 ⟨(some 45), .call 73, [.tmp 44], none⟩,
 ⟨(some 12), .mov, [.tmp 45], none⟩] false)
 (.seq (.seq (.ops [
 ⟨(some 13), .mov, [.const (.int .i64 0)], none⟩] false)
 (.block 0
 (.loop
 (.seq (.seq (.ops [
 ⟨(some 46), .mov, [.tmp 13], none⟩,
 ⟨(some 47), .mov, [.tmp 12], none⟩,
 ⟨(some 48), .len, [.tmp 47], none⟩,
 ⟨(some 49), .cmp .lss, [.tmp 46, .tmp 48], none⟩] false)
 (.cond (.tmp 49)
 .skip
 (.exit 0)))
 (.seq (.block 1
 (.seq (.ops [
 ⟨(some 53), .faddr 1, [.tmp 11], none⟩,
 ⟨(some 54), .load 1 false, [.tmp 53], none⟩,
 ⟨(some 55), .mov, [.tmp 1], none⟩,
 ⟨(some 56), .bin .mul .i64 false, [.tmp 55, .const (.int .i64 100)], none⟩,
 ⟨(some 57), .mov, [.tmp 13], none⟩,
 ⟨(some 58), .bin .add .i64 false, [.tmp 56, .tmp 57], none⟩,
 ⟨(some 59), .bin .add .i64 false, [.tmp 58, .const (.int .i64 1)], none⟩,
 ⟨(some 60), .mov, [.tmp 12], none⟩,
 ⟨(some 61), .mov, [.tmp 13], none⟩,
 ⟨(some 62), .idx 3, [.tmp 60, .tmp 61], none⟩,
 ⟨(some 63), .faddr 0, [.tmp 62], none⟩,
 ⟨(some 64), .load 1 false, [.tmp 63], none⟩,
 ⟨(some 65), .mov, [.tmp 12], none⟩,
 ⟨(some 66), .mov, [.tmp 13], none⟩,
 ⟨(some 67), .idx 3, [.tmp 65, .tmp 66], none⟩,
 ⟨(some 68), .faddr 1, [.tmp 67], none⟩,
 ⟨(some 69), .load 1 false, [.tmp 68], none⟩,
 ⟨(some 70), .mov, [.tmp 12], none⟩,
 ⟨(some 71), .mov, [.tmp 13], none⟩,
 ⟨(some 72), .idx 3, [.tmp 70, .tmp 71], none⟩,
 ⟨(some 73), .faddr 2, [.tmp 72], none⟩,
 ⟨(some 74), .load 1 false, [.tmp 73], none⟩,
 ⟨(some 75), .build [.int .i64 0, .int .i64 0, .int .i64 0, .int .i64 0] [(0, 1), (1, 1), (2, 1), (3, 1)], [.tmp 59, .tmp 64, .tmp 69, .tmp 74], none⟩,
 ⟨(some 76), .callo 74, [.tmp 54, .tmp 75], none⟩,
 ⟨(some 52), .mov, [.tmp 76], none⟩,
 ⟨(some 77), .extract 0, [.tmp 52], none⟩,
 ⟨(some 78), .extract 1, [.tmp 52], none⟩,
 ⟨(some 14), .mov, [.tmp 77], none⟩,
 ⟨(some 15), .mov, [.tmp 78], none⟩] true)
 (.seq (.seq (.ops [
 ⟨(some 79), .mov, [.tmp 15], none⟩,
 ⟨(some 80), .cmp .neq, [.tmp 79, .const (.int .i64 0)], none⟩] false)
 (.cond (.tmp 80)
 (.seq (.ops [
 ⟨(some 81), .build [.nil, .nil, .nil] [], [], none⟩,
 ⟨(some 82), .mov, [.tmp 15], none⟩,
 ⟨none, .store 3, [.tmp 8, .tmp 81], none⟩,
 ⟨(some 9), .mov, [.tmp 82], none⟩] false)
 .ret)
 .skip))
 (.ops [
 ⟨(some 83), .mov, [.tmp 14], none⟩,
 ⟨(some 84), .faddr 1, [.tmp 11], none⟩,
 ⟨none, .store 1, [.tmp 84, .tmp 83], none⟩] false))))
 (.ops [
 ⟨(some 50), .mov, [.tmp 13], none⟩,
 ⟨(some 51), .bin .add .i64 false, [.tmp 50, .const (.int .i64 1)], none⟩,
 ⟨(some 13), .mov, [.tmp 51], none⟩] false))))))
 (.seq (.ops [
 ⟨(some 85), .load 3 true, [.tmp 11], none⟩,
 ⟨none, .store 3, [.tmp 8, .tmp 85], none⟩,
 ⟨(some 9), .mov, [.const (.int .i64 0)], none⟩] false)
 .ret))))))))⟩
theorem rcloseLow : lowF Tryz.prog { bxs := [33, 34], gives := [26, 76], owns := [(37, 58)] } Tryz.f34 = some rcloseIr := by kernel_rfl
def rcloseS : Spec := spec (Bk × Int × List Share × List Share) (fun p => [aB p.1, I p.2.1, L 2 (p.2.2.1.map encS), L 2 (p.2.2.2.map encS)]) (fun p => RclP p.1 p.2.1 p.2.2.1 p.2.2.2) (fun p => .tup [aB (rclB p.1 p.2.1 p.2.2.1 p.2.2.2), I 0])
set_option maxHeartbeats 4000000 in
theorem rcloseV : fnV Tryz.prog rcloseIr rcloseS := by
  intro ⟨(b : Bk), (n : Int), (due : List Share), (rec : List Share)⟩ hp
  obtain ⟨hb, hpo8, hask, hok⟩ : RclP b n due rec := hp
  obtain ⟨⟨c1, c2, c3⟩, c4⟩ : (b.ps.length ≤ 1000000 ∧ b.po.length ≤ 1000000 ∧ b.rs.length ≤ 1000000) ∧ ∀ p ∈ b.ps, p.sh.length ≤ 1000000 := hb
  have hb : smB b := ⟨⟨c1, c2, c3⟩, c4⟩
  have hok1 : okB b := ⟨⟨by omega, by omega⟩, by omega, fun p hp => by have := c4 p hp; omega⟩
  have hlp : (b.ps.map encP).length = b.ps.length := List.length_map ..
  have hlo : (b.po.map encO).length = b.po.length := List.length_map ..
  have hlr : (b.rs.map encC).length = b.rs.length := List.length_map ..
  have hq := ask_yes hask
  have hlo := hq.lo
  have hhi := hq.hi
  have hR := posL_right hq.a1 hq.a2 hq.sum
  have hd8 := acc_len hq.a1
  have hr8 := acc_len hq.a2
  have hld : (due.map encS).length = due.length := List.length_map ..
  have hT8 : (rcloT due rec).length ≤ 8 := by
    have h1 := (nzl_nz hR).len
    have h2 := (rnet_spec hR).2
    unfold leastF at h2
    unfold rcloT
    omega
  have hlt : ((rcloT due rec).map encT).length = (rcloT due rec).length := List.length_map ..
  obtain ⟨x, hx⟩ := getElem_some (show (n - 1).toNat < b.ps.length by omega)
  have hkx : (b.ps.map encP)[(n - 1).toNat]? = some (encP x) := by rw [List.getElem?_map, hx]; rfl
  have hkx2 : ((b.ps.map encP).set (n - 1).toNat [CV.int .i64 x.num, .int .i64 x.fr, .int .i64 x.to, .bool true, .sl 2 (x.sh.map encS)])[(n - 1).toNat]? = some [CV.int .i64 x.num, .int .i64 x.fr, .int .i64 x.to, .bool true, .sl 2 (x.sh.map encS)] := List.getElem?_set_self (by rw [List.length_map]; omega)
  have hls : ((b.ps.map encP).set (n - 1).toNat [CV.int .i64 x.num, .int .i64 x.fr, .int .i64 x.to, .bool true, .sl 2 (x.sh.map encS)]).length = b.ps.length := by rw [List.length_set, List.length_map]
  have hset : ((b.ps.map encP).set (n - 1).toNat [CV.int .i64 x.num, .int .i64 x.fr, .int .i64 x.to, .bool true, .sl 2 (x.sh.map encS)]).set (n - 1).toNat [CV.int .i64 x.num, .int .i64 x.fr, .int .i64 x.to, .bool true, .sl 2 (due.map encS)] = (b.ps.set (n - 1).toNat (shut x due)).map encP := by rw [List.set_set, List.map_set]; rfl
  have hne : ∃ p r, b.ps = p :: r := by
    cases h : b.ps with
    | nil => rw [h] at hx; simp at hx
    | cons p r => exact ⟨p, r, rfl⟩
  obtain ⟨p0, r0, hpr⟩ := hne
  have e1 : copR b = .agg [.osl 0, .osl 1, .osl 2] := by unfold copR; rw [hpr]
  have e2 : copOb b = [rowP b.ps, rowO b.po, rowC b.rs] := by unfold copOb; rw [hpr]
  show vc _ _ _ _ ⟨argEnv 0 [aB b, I n, L 2 (due.map encS), L 2 (rec.map encS)], [], 0⟩
  repeat' ((conv => whnf); first | (refine ⟨fun h => ?_, fun h => ?_⟩ <;> try (exfalso; first | omega | exact absurd h (by decide) | exact h rfl | exact absurd (show true = false from h) (by decide) | exact absurd (show false = true from h) (by decide))) | (refine ⟨_, asked_h, (b, n, due, rec), ⟨hok1, (by show due.length ≤ 9223372036854775807; omega), (by show rec.length ≤ 9223372036854775807; omega)⟩, leVs_of_eq rfl, .inl rfl, rfl, ?_⟩; show norm (I (askE b n due rec)) _; rw [hask]) | fail | fail)
  conv => whnf
  dsimp only
  (refine ⟨rfl, _, copied_h, b, hb, leVs_of_eq rfl, by show rowsO (copOb b); rw [e2]; trivial, ?_⟩; show norm (shift _ (copR b)) fun r' => setK (St.news _ (copOb b)) _ r' _; rw [e1, e2])
  repeat' ((conv => whnf); (try dsimp only [setL, List.map_cons, List.map_nil, List.take, List.drop, SV.cells, constV, shift, St.new, St.put, kills, killI, Nat.reduceAdd]); first | (refine ⟨fun h => ?_, fun h => ?_⟩ <;> try (exfalso; first | omega | exact absurd h (by decide) | exact h rfl | exact absurd (show true = false from h) (by decide) | exact absurd (show false = true from h) (by decide))) | (refine ⟨_, rposit_h, (due, rec), ⟨hq.a1, hq.a2⟩, leVs_of_eq rfl, .inl rfl, rfl, ?_⟩; show norm (L 2 ((posL due rec).map encS)) _) | (refine ⟨_, rnet_h, posL due rec, hR, leVs_of_eq rfl, .inl rfl, rfl, ?_⟩; show norm (L 3 ((rcloT due rec).map encT)) _) | refine get_at hkx ?_ | refine get_at hkx2 ?_ | (refine ⟨⟨by first | omega | (simp only [List.length_nil]; omega) | (simp only [List.length_cons, List.length_nil]; omega), by first | omega | (simp only [List.length_nil]; omega) | (simp only [List.length_cons, List.length_nil]; omega)⟩, ?_⟩) | refine ⟨⟨by omega, by omega⟩, ?_⟩ | fail | fail)
  refine ⟨Nat × (List Pst), fun xq => ⟨[(1, I n), (8, .bp 0 0), (11, .bp 4 0), (12, L 3 ((rcloT due rec).map encT)), (13, I xq.1)], [(0, nils), (1, rowP (b.ps.set (n - 1).toNat (shut x due))), (2, rowO xq.2), (3, rowC b.rs), (4, .box [.osl 1, .osl 2, .osl 3])], 5⟩, fun xq => xq.1 ≤ (rcloT due rec).length ∧ xq.2.length ≤ b.po.length + xq.1 ∧ postAll n xq.1 ((rcloT due rec).drop xq.1) xq.2 = postAll n 0 (rcloT due rec) b.po, fun xq => (rcloT due rec).length - xq.1, ⟨(0, b.po), ?_, [(0, 1), (1, 2), (2, 3), (3, 4), (4, 5)], ⟨⟨rfl, rfl⟩, ⟨⟨rfl, rfl⟩, ⟨⟨rfl, rfl⟩, ⟨⟨rfl, rfl⟩, ⟨⟨rfl, rfl⟩, trivial⟩⟩⟩⟩⟩, ⟨⟨rfl, rfl, rfl⟩, ⟨⟨congrArg (fun es => some (Ob.row 76 5 es)) hset, rfl, rfl⟩, ⟨⟨rfl, rfl, rfl⟩, ⟨⟨rfl, rfl, rfl⟩, ⟨⟨rfl, rfl, rfl⟩, trivial⟩⟩⟩⟩⟩, rfl, rfl, rfl⟩, ?_⟩
  · (try dsimp only); exact ⟨Nat.zero_le _, Nat.le_refl _, rfl⟩
  rintro ⟨k, po⟩ hk
  obtain ⟨hk, hpl, hpo⟩ : k ≤ (rcloT due rec).length ∧ po.length ≤ b.po.length + k ∧ postAll n k ((rcloT due rec).drop k) po = postAll n 0 (rcloT due rec) b.po := hk
  (try dsimp only)
  by_cases hkl : k < (rcloT due rec).length
  · obtain ⟨t, ht⟩ := getElem_some hkl
    have hdr := drop_of ht
    rw [← hpo, hdr] at hok
    obtain ⟨hq', hgo⟩ := postAll_cons hok
    have e1 : postR po (refP n k t) = .tup [.osl 0, I 0] := if_pos hq'
    have e2 : postOb po (refP n k t) = [rowO (postF po (refP n k t)).1] := if_pos hq'
    repeat' ((conv => whnf); first | (refine ⟨fun h => ?_, fun h => ?_⟩ <;> try (exfalso; first | omega | exact absurd h (by decide) | exact h rfl | exact absurd (show true = false from h) (by decide) | exact absurd (show false = true from h) (by decide))) | (refine ⟨by omega, fun r hrr => ?_⟩; first | ((have hre : r = encT t := by (first | exact get_row hrr ht | fail)); subst hre)) | (refine ⟨rfl, _, rpost_h, (po, refP n k t), (by show po.length ≤ 900000; omega), ⟨leV_refl _, leV_refl _, trivial⟩, (by show rowsO (postOb po (refP n k t)); rw [e2]; trivial), ?_⟩; show norm (shift _ (postR po (refP n k t))) fun r' => setK (St.news _ (postOb po (refP n k t))) _ r' _; rw [e1, e2]) | (refine ⟨(k + 1, (postF po (refP n k t)).1), ⟨?_, by (try dsimp only); omega⟩, [(2, 5)], ⟨⟨rfl, rfl⟩, ⟨⟨rfl, rfl⟩, ⟨⟨rfl, rfl⟩, ⟨⟨rfl, rfl⟩, ⟨⟨rfl, rfl⟩, trivial⟩⟩⟩⟩⟩, ⟨⟨rfl, rfl, rfl⟩, ⟨⟨rfl, rfl, rfl⟩, ⟨⟨rfl, rfl, rfl⟩, ⟨⟨rfl, rfl, rfl⟩, ⟨⟨rfl, rfl, rfl⟩, trivial⟩⟩⟩⟩⟩, rfl, rfl, rfl⟩; (try dsimp only); exact ⟨by omega, by have := postF_len po (refP n k t); omega, by rw [← hgo, ← hdr]; exact hpo⟩) | refine ⟨⟨by omega, by omega⟩, ?_⟩ | fail)
  · have hdn : (rcloT due rec).drop k = [] := drop_end hkl
    rw [hdn] at hpo
    have hpo1 : (postAll n 0 (rcloT due rec) b.po).1 = po := by rw [← hpo]; rfl
    repeat' ((conv => whnf); (try dsimp only [setL, List.map_cons, List.map_nil, List.take, List.drop, SV.cells, constV, shift, St.new, St.put, kills, killI, Nat.reduceAdd]); first | (refine ⟨fun h => ?_, fun h => ?_⟩ <;> try (exfalso; first | omega | exact absurd h (by decide) | exact h rfl | exact absurd (show true = false from h) (by decide) | exact absurd (show false = true from h) (by decide))) | fail | fail)
    conv => whnf
    refine ⟨[], rfl, trivial, ?_⟩
    show leR _ (.tup [aB (rclB b n due rec), I 0])
    unfold rclB
    rw [at_of hx, hpo1]
    exact ⟨⟨rfl, rfl, rfl, trivial⟩, rfl, trivial⟩
theorem rclose_h : Holds Tryz.prog 34 rcloseS := holds_of mix Tryz.func34 rcloseLow (fun _ => rfl) rcloseV

structure BothP (b : Bk) (n : Int) (due rec : List Share) (y z : Bk) : Prop where
  e0 : clsE b n due rec = 0
  ps : y.ps = z.ps
  rs : y.rs = z.rs
  po : y.po = b.po ++ refsF n 0 (cloT due rec)
  len : y.po.length = z.po.length
  tl : (cloT due rec).length ≤ 8
  inc : (cloT due rec).Pairwise keyLt
  val : validB (posL due rec) (cloT due rec) = true
  rp : RclP b n due rec
  lb : y.po.length ≤ 2000
  ry : RB y
theorem both_of {b : Bk} (h : RB b) (hs : smB b) {n : Int} {due rec : List Share} (he : askE b n due rec = 0) (hf : b.po.length ≤ 100) (ht : takenB b.po n = false) : BothP b n due rec (clsB b n due rec) (rclB b n due rec) := by
  have hq := ask_yes he
  have hR := posL_right hq.a1 hq.a2 hq.sum
  have hN := netF_spec hR
  have hM := rnet_spec hR
  have h8 := least_8 hR
  have hc0 := ask_go h hq hf ht
  obtain ⟨x, hc⟩ := cls_cases h hc0
  have hok : ∀ t ∈ cloT due rec, okV t := fun t ht => by
    obtain ⟨k1, k2, k3, k4, k5⟩ := hN.ok t ht
    exact ⟨k1, k2, k3, k4, by omega⟩
  have e1 := ask_cls h hq hf ht (T := cloT due rec) h8 hok
  have hl2 : (rcloT due rec).length ≤ 8 := by show (rnetF _).length ≤ 8; rw [hM.2, ← hN.len]; exact h8
  have e2 := ask_cls h hq hf ht (T := rcloT due rec) hl2 hM.1
  have hpo : (clsB b n due rec).po = b.po ++ refsF n 0 (cloT due rec) := by rw [hc.res, e1]
  have hz : (rclB b n due rec).po = b.po ++ refsF n 0 (rcloT due rec) := by unfold rclB; rw [e2]
  have hll : (cloT due rec).length = (rcloT due rec).length := by show (netF _).length = (rnetF _).length; rw [hN.len, hM.2]
  refine ⟨hc0, ?_, ?_, hpo, ?_, h8, hN.inc, ?_, ⟨hs, by omega, he, by rw [e2]⟩, ?_, h.close hc⟩
  · rw [hc.res]
    unfold rclB
    rw [at_of hc.at']
  · rw [hc.res]
    rfl
  · rw [hpo, hz, List.length_append, List.length_append, refsF_len, refsF_len, hll]
  · exact validB_iff.2 ⟨hok, fun v _ => hN.bal v⟩
  · rw [hpo, List.length_append, refsF_len]
    have : (cloT due rec).length ≤ 8 := h8
    omega
theorem inc_at {T : List Tfer} (h : T.Pairwise keyLt) {k : Nat} {x y : Tfer} (hk : 1 ≤ k) (hx : T[k]? = some x) (hy : T[k - 1]? = some y) : y.f < x.f ∨ y.f = x.f ∧ y.t < x.t := by
  rw [List.pairwise_iff_getElem] at h
  obtain ⟨hi, rfl⟩ := List.getElem?_eq_some_iff.1 hx
  obtain ⟨hj, rfl⟩ := List.getElem?_eq_some_iff.1 hy
  exact h (k - 1) k hj hi (by omega)


end Go.Proofs.YtpkhannkbafimaaGreat
