/- Netting: sets of positions. -/
import Derived.Test.YtpkhannkbafimaaGreatF5
import Derived.Test.YtpkhannkbafimaaGreatP9
namespace Go.Proofs.YtpkhannkbafimaaGreat
open Go.RowKit

/-! skiarea/netting.groups -/
def groupsIr : IFn := ⟨74, [.tmp 2, .tmp 3],
 (.seq (.ops [
 ⟨(some 2), .mov, [.const (.slice none 0 0)], none⟩,
 ⟨(some 3), .mov, [.const (.slice none 0 0)], none⟩] false)
 (.seq (.ops [
 ⟨(some 8), .mov, [.tmp 0], none⟩,
 ⟨(some 9), .len, [.tmp 8], none⟩,
 ⟨(some 10), .bin .shl .i64 false, [.const (.int .i64 1), .tmp 9], none⟩,
 ⟨(some 11), .mksl 3 1 8 [.int .i64 0], [.tmp 10, .tmp 10], none⟩,
 ⟨(some 2), .mov, [.tmp 11], none⟩] false)
 (.seq (.ops [
 ⟨(some 12), .mov, [.tmp 0], none⟩,
 ⟨(some 13), .len, [.tmp 12], none⟩,
 ⟨(some 14), .bin .shl .i64 false, [.const (.int .i64 1), .tmp 13], none⟩,
 ⟨(some 15), .mksl 3 1 8 [.int .i64 0], [.tmp 14, .tmp 14], none⟩,
 ⟨(some 3), .mov, [.tmp 15], none⟩] false)
 (.seq (.seq (.ops [
 ⟨(some 4), .mov, [.const (.int .i64 1)], none⟩] false)
 (.block 0
 (.loop
 (.seq (.seq (.ops [
 ⟨(some 16), .mov, [.tmp 4], none⟩,
 ⟨(some 17), .mov, [.tmp 2], none⟩,
 ⟨(some 18), .len, [.tmp 17], none⟩,
 ⟨(some 19), .cmp .lss, [.tmp 16, .tmp 18], none⟩] false)
 (.cond (.tmp 19)
 .skip
 (.exit 0)))
 (.seq (.block 1
 (.seq (.seq (.ops [
 ⟨(some 22), .mov, [.tmp 0], none⟩,
 ⟨(some 23), .len, [.tmp 22], none⟩,
 ⟨(some 24), .mov, [.const (.int .i64 0)], none⟩] false)
 (.block 2
 (.loop
 (.seq (.ops [
 ⟨(some 25), .cmp .lss, [.tmp 24, .tmp 23], none⟩] false)
 (.seq (.cond (.tmp 25)
 .skip
 (.exit 2))
 (.seq (.block 3
 (.seq (.ops [
 ⟨(some 26), .mov, [.tmp 24], none⟩,
 ⟨(some 27), .idx 2, [.tmp 22, .tmp 24], none⟩,
 ⟨(some 28), .load 2 true, [.tmp 27], none⟩,
 ⟨(some 6), .alloc [.int .i64 0, .int .i64 0], [], none⟩,
 ⟨(some 5), .mov, [.tmp 26], none⟩,
 ⟨none, .store 2, [.tmp 6, .tmp 28], none⟩] false)
 (.seq (.ops [
 ⟨(some 29), .mov, [.tmp 4], none⟩,
 ⟨(some 30), .mov, [.tmp 5], none⟩,
 ⟨(some 31), .bin .shr .i64 false, [.tmp 29, .tmp 30], none⟩,
 ⟨(some 32), .bin .and .i64 false, [.tmp 31, .const (.int .i64 1)], none⟩,
 ⟨(some 33), .cmp .eql, [.tmp 32, .const (.int .i64 1)], none⟩] false)
 (.cond (.tmp 33)
 (.seq (.ops [
 ⟨(some 34), .mov, [.tmp 4], none⟩,
 ⟨(some 35), .mov, [.tmp 5], none⟩,
 ⟨(some 36), .bin .shl .i64 false, [.const (.int .i64 1), .tmp 35], none⟩,
 ⟨(some 37), .bin .andNot .i64 false, [.tmp 34, .tmp 36], none⟩,
 ⟨(some 7), .mov, [.tmp 37], none⟩] false)
 (.seq (.ops [
 ⟨(some 38), .mov, [.tmp 2], none⟩,
 ⟨(some 39), .mov, [.tmp 4], none⟩,
 ⟨(some 40), .mov, [.tmp 2], none⟩,
 ⟨(some 41), .mov, [.tmp 7], none⟩,
 ⟨(some 42), .idx 1, [.tmp 40, .tmp 41], none⟩,
 ⟨(some 43), .load 1 false, [.tmp 42], none⟩,
 ⟨(some 44), .faddr 1, [.tmp 6], none⟩,
 ⟨(some 45), .load 1 false, [.tmp 44], none⟩,
 ⟨(some 46), .bin .add .i64 false, [.tmp 43, .tmp 45], none⟩,
 ⟨(some 47), .idx 1, [.tmp 38, .tmp 39], none⟩,
 ⟨none, .store 1, [.tmp 47, .tmp 46], none⟩] true)
 (.ops [
 ⟨(some 48), .mov, [.tmp 3], none⟩,
 ⟨(some 49), .mov, [.tmp 4], none⟩,
 ⟨(some 50), .mov, [.tmp 3], none⟩,
 ⟨(some 51), .mov, [.tmp 4], none⟩,
 ⟨(some 52), .idx 1, [.tmp 50, .tmp 51], none⟩,
 ⟨(some 53), .load 1 false, [.tmp 52], none⟩,
 ⟨(some 54), .mov, [.tmp 3], none⟩,
 ⟨(some 55), .mov, [.tmp 7], none⟩,
 ⟨(some 56), .idx 1, [.tmp 54, .tmp 55], none⟩,
 ⟨(some 57), .load 1 false, [.tmp 56], none⟩,
 ⟨(some 58), .max, [.tmp 53, .tmp 57], none⟩,
 ⟨(some 59), .idx 1, [.tmp 48, .tmp 49], none⟩,
 ⟨none, .store 1, [.tmp 59, .tmp 58], none⟩] true)))
 .skip))))
 (.ops [
 ⟨(some 60), .bin .add .i64 false, [.tmp 24, .const (.int .i64 1)], none⟩,
 ⟨(some 24), .mov, [.tmp 60], none⟩] false)))))))
 (.seq (.ops [
 ⟨(some 61), .mov, [.tmp 2], none⟩,
 ⟨(some 62), .mov, [.tmp 4], none⟩,
 ⟨(some 63), .idx 1, [.tmp 61, .tmp 62], none⟩,
 ⟨(some 64), .load 1 false, [.tmp 63], none⟩,
 ⟨(some 65), .cmp .eql, [.tmp 64, .const (.int .i64 0)], none⟩] false)
 (.cond (.tmp 65)
 (.ops [
 ⟨(some 66), .mov, [.tmp 3], none⟩,
 ⟨(some 67), .mov, [.tmp 4], none⟩,
 ⟨(some 68), .idx 1, [.tmp 66, .tmp 67], none⟩,
 ⟨(some 69), .load 1 false, [.tmp 68], none⟩,
 ⟨(some 70), .bin .add .i64 false, [.tmp 69, .const (.int .i64 1)], none⟩,
 ⟨(some 71), .idx 1, [.tmp 66, .tmp 67], none⟩,
 ⟨none, .store 1, [.tmp 71, .tmp 70], none⟩] false)
 .skip))))
 (.ops [
 ⟨(some 20), .mov, [.tmp 4], none⟩,
 ⟨(some 21), .bin .add .i64 false, [.tmp 20, .const (.int .i64 1)], none⟩,
 ⟨(some 4), .mov, [.tmp 21], none⟩] false))))))
 (.seq (.ops [
 ⟨(some 72), .mov, [.tmp 2], none⟩,
 ⟨(some 73), .mov, [.tmp 3], none⟩,
 ⟨(some 2), .mov, [.tmp 72], none⟩,
 ⟨(some 3), .mov, [.tmp 73], none⟩] false)
 .ret)))))⟩
theorem groupsLow : lowF Tryz.prog {} Tryz.f69 = some groupsIr := by kernel_rfl
def groupsS : Spec := spec (List Share) (fun l => [L 2 (l.map encS)]) Few (fun l => .tup [L 1 (tabN (2 ^ l.length) (sumT l)), L 1 (tabN (2 ^ l.length) (mosT l))])
set_option maxHeartbeats 1000000 in
theorem groupsV : fnV Tryz.prog groupsIr groupsS := by
  intro (l : List Share) hf
  replace hf : Few l := hf
  show vc _ _ _ _ ⟨argEnv 0 [L 2 (l.map encS)], [], 0⟩
  have h8 := hf.len
  have h256 := pow_le8 h8
  have hl : (l.map encS).length = l.length := List.length_map ..
  have hN := shl_eq h8
  rw [← hl] at hN
  generalize hNN : 2 ^ (l.map encS).length = N at hN
  have hNl : 2 ^ l.length = N := by rw [← hNN, hl]
  have hNp : 0 < N := by rw [← hNl]; exact Nat.two_pow_pos _
  conv => whnf
  refine ⟨by omega, ?_⟩
  conv => whnf
  refine ⟨⟨by omega, by omega, by omega, by omega⟩, ?_⟩
  rw [hN, Int.toNat_natCast]
  conv => whnf
  refine ⟨by omega, ?_⟩
  conv => whnf
  refine ⟨⟨by omega, by omega, by omega, by omega⟩, ?_⟩
  rw [hN, Int.toNat_natCast]
  conv => whnf
  refine ⟨Nat × (List (List CV)) × (List (List CV)), fun xq => ⟨[(0, L 2 (l.map encS)), (2, .osl 0), (3, .osl 1), (4, I xq.1)], [(0, .row 3 1 xq.2.1), (1, .row 3 1 xq.2.2)], 2⟩, fun xq => (1 ≤ xq.1 ∧ xq.1 ≤ N) ∧ ∃ F G : Nat → Int, (xq.2.1 = tabN N F ∧ xq.2.2 = tabN N G) ∧ Fil0 l xq.1 F G, fun xq => N - xq.1, ⟨(1, _, _), ?_, [], ⟨⟨rfl, rfl⟩, ⟨⟨rfl, rfl⟩, ⟨⟨rfl, rfl⟩, ⟨⟨rfl, rfl⟩, trivial⟩⟩⟩⟩, ⟨⟨rfl, rfl, rfl⟩, ⟨⟨rfl, rfl, rfl⟩, trivial⟩⟩, rfl, rfl, rfl⟩, ?_⟩
  · (try dsimp only); exact ⟨⟨Nat.le_refl _, hNp⟩, _, _, ⟨tabN_zero N, tabN_zero N⟩, Fil0.start l⟩
  rintro ⟨S, es, fs⟩ hk
  obtain ⟨⟨hS1, hSN⟩, F, G, ⟨he, hg⟩, hF⟩ : (1 ≤ S ∧ S ≤ N) ∧ ∃ F G : Nat → Int, (es = tabN N F ∧ fs = tabN N G) ∧ Fil0 l S F G := hk
  (try dsimp only)
  have hel : es.length = N := by rw [he]; exact tabN_len N F
  have hgl : fs.length = N := by rw [hg]; exact tabN_len N G
  by_cases hSl : S < N
  · have hS : S < 2 ^ l.length := by omega
    have hS8 : S < 256 := by omega
    conv => whnf
    refine ⟨fun h => ?_, fun h => absurd h (by omega)⟩
    conv => whnf
    refine ⟨Nat × (List (List CV)) × (List (List CV)), fun xq => ⟨[(0, L 2 (l.map encS)), (2, .osl 0), (3, .osl 1), (4, I S), (22, L 2 (l.map encS)), (23, I (l.map encS).length), (24, I xq.1)], [(0, .row 3 1 xq.2.1), (1, .row 3 1 xq.2.2)], 2⟩, fun xq => xq.1 ≤ l.length ∧ ∃ F G : Nat → Int, (xq.2.1 = tabN N F ∧ xq.2.2 = tabN N G) ∧ FilIn l S xq.1 F G, fun xq => l.length - xq.1, ⟨(0, _, _), ?_, [], ⟨⟨rfl, rfl⟩, ⟨⟨rfl, rfl⟩, ⟨⟨rfl, rfl⟩, ⟨⟨rfl, rfl⟩, ⟨⟨rfl, rfl⟩, ⟨⟨rfl, rfl⟩, ⟨⟨rfl, rfl⟩, trivial⟩⟩⟩⟩⟩⟩⟩, ⟨⟨rfl, rfl, rfl⟩, ⟨⟨rfl, rfl, rfl⟩, trivial⟩⟩, rfl, rfl, rfl⟩, ?_⟩
    · (try dsimp only); exact ⟨Nat.zero_le _, F, G, ⟨he, hg⟩, hF.inner hS⟩
    rintro ⟨i, es, fs⟩ hk
    obtain ⟨hi, F, G, ⟨he, hg⟩, hF⟩ : i ≤ l.length ∧ ∃ F G : Nat → Int, (es = tabN N F ∧ fs = tabN N G) ∧ FilIn l S i F G := hk
    (try dsimp only)
    have hel : es.length = N := by rw [he]; exact tabN_len N F
    have hgl : fs.length = N := by rw [hg]; exact tabN_len N G
    by_cases hil : i < l.length
    · obtain ⟨x, hx⟩ := getElem_some hil
      have hox := (hf.ok x (List.mem_of_getElem? hx)).2
      cases hb : S.testBit i with
      | true =>
        have hbit := bit_yes hS8 (by omega) hb
        have hclr := clr_yes hS8 (by omega) hb
        have hlt := clr_lt hS8 (by omega) hb
        obtain ⟨q1, q2⟩ := (hF.fil (S ^^^ 2 ^ i) (by omega)).1 hlt
        have qb := hf.sum (S ^^^ 2 ^ i)
        rw [show sumB (amt l) (S ^^^ 2 ^ i) = sumT l (S ^^^ 2 ^ i) from rfl, ← q1] at qb
        generalize hc : S ^^^ 2 ^ i = T at *
        repeat' ((conv => whnf); first | (refine ⟨fun h => ?_, fun h => ?_⟩ <;> try (exfalso; first | omega | exact absurd h (by decide) | exact h rfl)) | (refine ⟨by omega, fun r hrr => ?_⟩; obtain rfl := get_row hrr hx) | (refine ⟨Int.natCast_nonneg _, ?_⟩) | fail)
        conv => whnf
        rw [hclr]
        refine ⟨⟨by omega, by omega⟩, ?_⟩
        conv => whnf
        have k1 : es[(T : Int).toNat]? = some (cI (F T)) := by rw [he]; exact tabN_get (by omega)
        refine get_at k1 ?_
        conv => whnf
        (refine ⟨⟨by omega, by omega⟩, ?_⟩)
        conv => whnf
        (refine ⟨⟨by omega, by omega⟩, ?_⟩)
        conv => whnf
        have k2 : es[(S : Int).toNat]? = some (cI (F S)) := by rw [he]; exact tabN_get (by omega)
        refine get_at k2 ?_
        conv => whnf
        (refine ⟨⟨by omega, by omega⟩, ?_⟩)
        conv => whnf
        have k3 : fs[(S : Int).toNat]? = some (cI (G S)) := by rw [hg]; exact tabN_get (by omega)
        refine get_at k3 ?_
        conv => whnf
        (refine ⟨⟨by omega, by omega⟩, ?_⟩)
        conv => whnf
        have k4 : fs[(T : Int).toNat]? = some (cI (G T)) := by rw [hg]; exact tabN_get (by omega)
        refine get_at k4 ?_
        conv => whnf
        (refine ⟨⟨by omega, by omega⟩, ?_⟩)
        conv => whnf
        refine get_at k3 ?_
        conv => whnf
        refine ⟨⟨by omega, by omega⟩, ?_⟩
        conv => whnf
        have hn := hF.take hf hS hb hx
        rw [hc] at hn
        (refine ⟨(i + 1, _, _), ⟨?_, by (try dsimp only); omega⟩, [], ⟨⟨rfl, rfl⟩, ⟨⟨rfl, rfl⟩, ⟨⟨rfl, rfl⟩, ⟨⟨rfl, rfl⟩, ⟨⟨rfl, rfl⟩, ⟨⟨rfl, rfl⟩, ⟨⟨rfl, rfl⟩, trivial⟩⟩⟩⟩⟩⟩⟩, ⟨⟨rfl, rfl, rfl⟩, ⟨⟨rfl, rfl, rfl⟩, trivial⟩⟩, rfl, rfl, rfl⟩; (try dsimp only); exact ⟨by omega, _, _, ⟨by rw [he]; exact tabN_set, by rw [hg]; exact tabN_set⟩, hn⟩)
      | false =>
        have hbit := bit_no hS8 (by omega) hb
        repeat' ((conv => whnf); first | (refine ⟨(i + 1, _, _), ⟨?_, by (try dsimp only); omega⟩, [], ⟨⟨rfl, rfl⟩, ⟨⟨rfl, rfl⟩, ⟨⟨rfl, rfl⟩, ⟨⟨rfl, rfl⟩, ⟨⟨rfl, rfl⟩, ⟨⟨rfl, rfl⟩, ⟨⟨rfl, rfl⟩, trivial⟩⟩⟩⟩⟩⟩⟩, ⟨⟨rfl, rfl, rfl⟩, ⟨⟨rfl, rfl, rfl⟩, trivial⟩⟩, rfl, rfl, rfl⟩; (try dsimp only); exact ⟨by omega, F, G, ⟨he, hg⟩, hF.skip hb⟩) | (refine ⟨fun h => ?_, fun h => ?_⟩ <;> try (exfalso; first | omega | exact absurd h (by decide) | exact h rfl)) | (refine ⟨by omega, fun r hrr => ?_⟩; obtain rfl := get_row hrr hx) | (refine ⟨Int.natCast_nonneg _, ?_⟩) | refine ⟨⟨by omega, by omega⟩, ?_⟩ | fail)
    · have hil' : i = l.length := by omega
      subst hil'
      obtain ⟨d1, d2⟩ := hF.done hf hS (by omega)
      have hmb := hf.most hS
      have k1 : es[(S : Int).toNat]? = some (cI (F S)) := by rw [he]; exact tabN_get (by omega)
      have k3 : fs[(S : Int).toNat]? = some (cI (G S)) := by rw [hg]; exact tabN_get (by omega)
      by_cases hz : sumB (amt l) S = 0
      · have hz' : F S = 0 := d1.trans hz
        have d2' : G S + 1 = mosT l S := by unfold zB at d2; rw [if_pos hz] at d2; exact d2
        have hr : -1 ≤ G S ∧ G S ≤ 7 := by have : (0 : Int) ≤ mosT l S ∧ mosT l S ≤ 8 := ⟨by unfold mosT; omega, by unfold mosT; omega⟩; omega
        repeat' ((conv => whnf); first | (refine ⟨(S + 1, _, _), ⟨?_, by (try dsimp only); omega⟩, [], ⟨⟨rfl, rfl⟩, ⟨⟨rfl, rfl⟩, ⟨⟨rfl, rfl⟩, ⟨⟨rfl, rfl⟩, trivial⟩⟩⟩⟩, ⟨⟨rfl, rfl, rfl⟩, ⟨⟨rfl, rfl, rfl⟩, trivial⟩⟩, rfl, rfl, rfl⟩; (try dsimp only); refine ⟨⟨by omega, by omega⟩, F, _, ⟨he, by rw [hg]; exact tabN_set⟩, (hF.fil.updG (G S + 1)).next d1 (by simp [updF, d2'])⟩) | (refine ⟨fun h => ?_, fun h => ?_⟩ <;> try (exfalso; first | omega | exact absurd h (by decide) | exact h rfl)) | refine get_at k1 ?_ | refine get_at k3 ?_ | (refine ⟨⟨by omega, by omega⟩, ?_⟩) | refine ⟨⟨by omega, by omega⟩, ?_⟩ | fail)
      · have hz' : F S ≠ 0 := fun e => hz (d1.symm.trans e)
        have d2' : G S = mosT l S := by unfold zB at d2; rw [if_neg hz] at d2; simpa using d2
        repeat' ((conv => whnf); first | (refine ⟨(S + 1, _, _), ⟨?_, by (try dsimp only); omega⟩, [], ⟨⟨rfl, rfl⟩, ⟨⟨rfl, rfl⟩, ⟨⟨rfl, rfl⟩, ⟨⟨rfl, rfl⟩, trivial⟩⟩⟩⟩, ⟨⟨rfl, rfl, rfl⟩, ⟨⟨rfl, rfl, rfl⟩, trivial⟩⟩, rfl, rfl, rfl⟩; (try dsimp only); exact ⟨⟨by omega, by omega⟩, F, G, ⟨he, hg⟩, hF.fil.next d1 d2'⟩) | (refine ⟨fun h => ?_, fun h => ?_⟩ <;> try (exfalso; first | omega | exact absurd h (by decide) | exact h rfl)) | refine get_at k1 ?_ | (refine ⟨⟨by omega, by omega⟩, ?_⟩) | refine ⟨⟨by omega, by omega⟩, ?_⟩ | fail)
  · conv => whnf
    refine ⟨fun h => absurd h (by omega), fun h => ?_⟩
    conv => whnf
    refine ⟨[], rfl, trivial, ?_⟩
    show leVs [L 1 es, L 1 fs] [L 1 (tabN (2 ^ l.length) (sumT l)), L 1 (tabN (2 ^ l.length) (mosT l))]
    have hSe : S = N := by omega
    rw [he, hg, hNl, tabN_congr (fun j hj => ((hF.1 j (by omega)).1 (by omega)).1), tabN_congr (fun j hj => ((hF.1 j (by omega)).1 (by omega)).2)]
    exact leVs_of_eq rfl
theorem groups_h : Holds Tryz.prog 69 groupsS := holds_of mix Tryz.func69 groupsLow (fun _ => rfl) groupsV

end Go.Proofs.YtpkhannkbafimaaGreat
