/- Netting: Least, and the reference's. -/
import Derived.Test.YtpkhannkbafimaaGreatF6
namespace Go.Proofs.YtpkhannkbafimaaGreat
open Go.RowKit

/-! skiarea/skiarearef37.sums -/
def rsumsIr : IFn := ⟨41, [.tmp 2],
 (.seq (.ops [
 ⟨(some 2), .mov, [.const (.slice none 0 0)], none⟩] false)
 (.seq (.ops [
 ⟨(some 6), .mov, [.tmp 0], none⟩,
 ⟨(some 7), .len, [.tmp 6], none⟩,
 ⟨(some 8), .bin .shl .i64 false, [.const (.int .i64 1), .tmp 7], none⟩,
 ⟨(some 9), .mksl 3 1 8 [.int .i64 0], [.tmp 8, .tmp 8], none⟩,
 ⟨(some 3), .mov, [.tmp 9], none⟩] false)
 (.seq (.seq (.ops [
 ⟨(some 4), .mov, [.const (.int .i64 1)], none⟩] false)
 (.block 0
 (.loop
 (.seq (.seq (.ops [
 ⟨(some 10), .mov, [.tmp 4], none⟩,
 ⟨(some 11), .mov, [.tmp 3], none⟩,
 ⟨(some 12), .len, [.tmp 11], none⟩,
 ⟨(some 13), .cmp .lss, [.tmp 10, .tmp 12], none⟩] false)
 (.cond (.tmp 13)
 .skip
 (.exit 0)))
 (.seq (.block 1
 (.seq (.ops [
 ⟨(some 5), .mov, [.const (.int .i64 0)], none⟩] false)
 (.block 2
 (.loop
 (.seq (.seq (.ops [
 ⟨(some 16), .mov, [.tmp 5], none⟩,
 ⟨(some 17), .mov, [.tmp 0], none⟩,
 ⟨(some 18), .len, [.tmp 17], none⟩,
 ⟨(some 19), .cmp .lss, [.tmp 16, .tmp 18], none⟩] false)
 (.cond (.tmp 19)
 .skip
 (.exit 2)))
 (.seq (.block 3
 (.seq (.ops [
 ⟨(some 22), .mov, [.tmp 4], none⟩,
 ⟨(some 23), .mov, [.tmp 5], none⟩,
 ⟨(some 24), .bin .shr .i64 false, [.tmp 22, .tmp 23], none⟩,
 ⟨(some 25), .bin .and .i64 false, [.tmp 24, .const (.int .i64 1)], none⟩,
 ⟨(some 26), .cmp .eql, [.tmp 25, .const (.int .i64 1)], none⟩] false)
 (.cond (.tmp 26)
 (.ops [
 ⟨(some 27), .mov, [.tmp 3], none⟩,
 ⟨(some 28), .mov, [.tmp 4], none⟩,
 ⟨(some 29), .mov, [.tmp 3], none⟩,
 ⟨(some 30), .mov, [.tmp 4], none⟩,
 ⟨(some 31), .idx 1, [.tmp 29, .tmp 30], none⟩,
 ⟨(some 32), .load 1 false, [.tmp 31], none⟩,
 ⟨(some 33), .mov, [.tmp 0], none⟩,
 ⟨(some 34), .mov, [.tmp 5], none⟩,
 ⟨(some 35), .idx 2, [.tmp 33, .tmp 34], none⟩,
 ⟨(some 36), .faddr 1, [.tmp 35], none⟩,
 ⟨(some 37), .load 1 false, [.tmp 36], none⟩,
 ⟨(some 38), .bin .add .i64 false, [.tmp 32, .tmp 37], none⟩,
 ⟨(some 39), .idx 1, [.tmp 27, .tmp 28], none⟩,
 ⟨none, .store 1, [.tmp 39, .tmp 38], none⟩] true)
 .skip)))
 (.ops [
 ⟨(some 20), .mov, [.tmp 5], none⟩,
 ⟨(some 21), .bin .add .i64 false, [.tmp 20, .const (.int .i64 1)], none⟩,
 ⟨(some 5), .mov, [.tmp 21], none⟩] false)))))))
 (.ops [
 ⟨(some 14), .mov, [.tmp 4], none⟩,
 ⟨(some 15), .bin .add .i64 false, [.tmp 14, .const (.int .i64 1)], none⟩,
 ⟨(some 4), .mov, [.tmp 15], none⟩] false))))))
 (.seq (.ops [
 ⟨(some 40), .mov, [.tmp 3], none⟩,
 ⟨(some 2), .mov, [.tmp 40], none⟩] false)
 .ret))))⟩
theorem rsumsLow : lowF Tryz.prog {} Tryz.f121 = some rsumsIr := by kernel_rfl
def rsumsS : Spec := spec (List Share) (fun l => [L 2 (l.map encS)]) Few (fun l => L 1 (tabN (2 ^ l.length) (sumT l)))
set_option maxHeartbeats 1000000 in
theorem rsumsV : fnV Tryz.prog rsumsIr rsumsS := by
  intro (l : List Share) hf
  replace hf : Few l := hf
  show vc _ _ _ _ ⟨argEnv 0 [L 2 (l.map encS)], [], 0⟩
  have h8 := hf.len
  have h256 := pow_le8 h8
  have hl : (l.map encS).length = l.length := List.length_map ..
  have hN := shl_eq h8
  rw [← hl] at hN
  generalize hNN : 2 ^ (l.map encS).length = N at hN
  have hNl : 2 ^ l.length = N := by rw [← hNN, hl]
  have hNp : 0 < N := by rw [← hNl]; exact Nat.two_pow_pos _
  conv => whnf
  refine ⟨by omega, ?_⟩
  conv => whnf
  refine ⟨⟨by omega, by omega, by omega, by omega⟩, ?_⟩
  rw [hN, Int.toNat_natCast]
  conv => whnf
  refine ⟨Nat × (List (List CV)), fun xq => ⟨[(0, L 2 (l.map encS)), (3, .osl 0), (4, I xq.1)], [(0, .row 3 1 xq.2)], 1⟩, fun xq => (1 ≤ xq.1 ∧ xq.1 ≤ N) ∧ ∃ F : Nat → Int, xq.2 = tabN N F ∧ SFil l xq.1 F ∧ (xq.1 < N → F xq.1 = 0), fun xq => N - xq.1, ⟨(1, _), ?_, [], ⟨⟨rfl, rfl⟩, ⟨⟨rfl, rfl⟩, ⟨⟨rfl, rfl⟩, trivial⟩⟩⟩, ⟨⟨rfl, rfl, rfl⟩, trivial⟩, rfl, rfl, rfl⟩, ?_⟩
  · (try dsimp only); exact ⟨⟨Nat.le_refl _, hNp⟩, _, tabN_zero N, SFil.start l, fun _ => rfl⟩
  rintro ⟨S, es⟩ hk
  obtain ⟨⟨hS1, hSN⟩, F, he, hF, hF0⟩ : (1 ≤ S ∧ S ≤ N) ∧ ∃ F : Nat → Int, es = tabN N F ∧ SFil l S F ∧ (S < N → F S = 0) := hk
  (try dsimp only)
  have hel : es.length = N := by rw [he]; exact tabN_len N F
  by_cases hSl : S < N
  · have hS : S < 2 ^ l.length := by omega
    have hS8 : S < 256 := by omega
    conv => whnf
    refine ⟨fun h => ?_, fun h => absurd h (by omega)⟩
    conv => whnf
    refine ⟨Nat × (List (List CV)), fun xq => ⟨[(0, L 2 (l.map encS)), (3, .osl 0), (4, I S), (5, I xq.1)], [(0, .row 3 1 xq.2)], 1⟩, fun xq => xq.1 ≤ l.length ∧ ∃ F : Nat → Int, xq.2 = tabN N F ∧ SFil l S F ∧ F S = sumTo (amt l) S xq.1, fun xq => l.length - xq.1, ⟨(0, _), ?_, [], ⟨⟨rfl, rfl⟩, ⟨⟨rfl, rfl⟩, ⟨⟨rfl, rfl⟩, ⟨⟨rfl, rfl⟩, trivial⟩⟩⟩⟩, ⟨⟨rfl, rfl, rfl⟩, trivial⟩, rfl, rfl, rfl⟩, ?_⟩
    · (try dsimp only); exact ⟨Nat.zero_le _, F, he, hF, hF0 hSl⟩
    rintro ⟨i, es⟩ hk
    obtain ⟨hi, F, he, hF, hFs⟩ : i ≤ l.length ∧ ∃ F : Nat → Int, es = tabN N F ∧ SFil l S F ∧ F S = sumTo (amt l) S i := hk
    (try dsimp only)
    have hel : es.length = N := by rw [he]; exact tabN_len N F
    by_cases hil : i < l.length
    · obtain ⟨x, hx⟩ := getElem_some hil
      have hox := (hf.ok x (List.mem_of_getElem? hx)).2
      have hsb := hf.sumTo S hi
      have hxa : (amt l).getD i 0 = x.a := by simp [amt, hx]
      cases hb : S.testBit i with
      | true =>
        have hbit := bit_yes hS8 (by omega) hb
        have k1 : es[(S : Int).toNat]? = some (cI (F S)) := by rw [he]; exact tabN_get (by omega)
        repeat' ((conv => whnf); first | (refine ⟨(i + 1, _), ⟨?_, by (try dsimp only); omega⟩, [], ⟨⟨rfl, rfl⟩, ⟨⟨rfl, rfl⟩, ⟨⟨rfl, rfl⟩, ⟨⟨rfl, rfl⟩, trivial⟩⟩⟩⟩, ⟨⟨rfl, rfl, rfl⟩, trivial⟩, rfl, rfl, rfl⟩; (try dsimp only); exact ⟨by omega, _, by rw [he]; exact tabN_set, hF.upd _, by simp only [updF, if_true]; rw [sumTo, if_pos hb, hFs, hxa]⟩) | (refine ⟨fun h => ?_, fun h => ?_⟩ <;> try (exfalso; first | omega | exact absurd h (by decide) | exact h rfl)) | (refine ⟨by omega, fun r hrr => ?_⟩; obtain rfl := get_row hrr hx) | refine get_at k1 ?_ | (refine ⟨Int.natCast_nonneg _, ?_⟩) | (refine ⟨⟨by omega, by omega⟩, ?_⟩) | refine ⟨⟨by omega, by omega⟩, ?_⟩ | fail)
      | false =>
        have hbit := bit_no hS8 (by omega) hb
        repeat' ((conv => whnf); first | (refine ⟨(i + 1, _), ⟨?_, by (try dsimp only); omega⟩, [], ⟨⟨rfl, rfl⟩, ⟨⟨rfl, rfl⟩, ⟨⟨rfl, rfl⟩, ⟨⟨rfl, rfl⟩, trivial⟩⟩⟩⟩, ⟨⟨rfl, rfl, rfl⟩, trivial⟩, rfl, rfl, rfl⟩; (try dsimp only); exact ⟨by omega, F, he, hF, by rw [sumTo, if_neg (by rw [hb]; decide), hFs]; omega⟩) | (refine ⟨fun h => ?_, fun h => ?_⟩ <;> try (exfalso; first | omega | exact absurd h (by decide) | exact h rfl)) | (refine ⟨by omega, fun r hrr => ?_⟩; obtain rfl := get_row hrr hx) | (refine ⟨Int.natCast_nonneg _, ?_⟩) | refine ⟨⟨by omega, by omega⟩, ?_⟩ | fail)
    · have hil' : i = l.length := by omega
      subst hil'
      have hFs' : F S = sumT l S := by rw [hFs]; unfold sumT sumB; rw [hf.amt.1]
      repeat' ((conv => whnf); first | (refine ⟨(S + 1, _), ⟨?_, by (try dsimp only); omega⟩, [], ⟨⟨rfl, rfl⟩, ⟨⟨rfl, rfl⟩, ⟨⟨rfl, rfl⟩, trivial⟩⟩⟩, ⟨⟨rfl, rfl, rfl⟩, trivial⟩, rfl, rfl, rfl⟩; (try dsimp only); exact ⟨⟨by omega, by omega⟩, F, he, hF.next hFs', fun h => (hF (S + 1) (by omega)).2 (by omega)⟩) | (refine ⟨fun h => ?_, fun h => ?_⟩ <;> try (exfalso; first | omega | exact absurd h (by decide) | exact h rfl)) | (refine ⟨⟨by omega, by omega⟩, ?_⟩) | refine ⟨⟨by omega, by omega⟩, ?_⟩ | fail)
  · conv => whnf
    refine ⟨fun h => absurd h (by omega), fun h => ?_⟩
    conv => whnf
    refine ⟨[], rfl, trivial, ?_⟩
    show leV (L 1 es) (L 1 (tabN (2 ^ l.length) (sumT l)))
    rw [he, hNl, tabN_congr (fun j hj => (hF j (by omega)).1 (by omega))]
    exact leV_refl _
theorem rsums_h : Holds Tryz.prog 121 rsumsS := holds_of mix Tryz.func121 rsumsLow (fun _ => rfl) rsumsV

/-! skiarea/skiarearef37.groups -/
def rgroupsIr : IFn := ⟨56, [.tmp 2],
 (.seq (.ops [
 ⟨(some 2), .mov, [.const (.slice none 0 0)], none⟩] false)
 (.seq (.ops [
 ⟨(some 7), .mov, [.tmp 0], none⟩,
 ⟨(some 8), .call 121, [.tmp 7], none⟩,
 ⟨(some 3), .mov, [.tmp 8], none⟩] false)
 (.seq (.ops [
 ⟨(some 9), .mov, [.tmp 3], none⟩,
 ⟨(some 10), .len, [.tmp 9], none⟩,
 ⟨(some 11), .mksl 3 1 8 [.int .i64 0], [.tmp 10, .tmp 10], none⟩,
 ⟨(some 4), .mov, [.tmp 11], none⟩] false)
 (.seq (.seq (.ops [
 ⟨(some 5), .mov, [.const (.int .i64 1)], none⟩] false)
 (.block 0
 (.loop
 (.seq (.seq (.ops [
 ⟨(some 12), .mov, [.tmp 5], none⟩,
 ⟨(some 13), .mov, [.tmp 3], none⟩,
 ⟨(some 14), .len, [.tmp 13], none⟩,
 ⟨(some 15), .cmp .lss, [.tmp 12, .tmp 14], none⟩] false)
 (.cond (.tmp 15)
 .skip
 (.exit 0)))
 (.seq (.block 1
 (.seq (.seq (.ops [
 ⟨(some 6), .mov, [.const (.int .i64 0)], none⟩] false)
 (.block 2
 (.loop
 (.seq (.seq (.ops [
 ⟨(some 18), .mov, [.tmp 6], none⟩,
 ⟨(some 19), .mov, [.tmp 0], none⟩,
 ⟨(some 20), .len, [.tmp 19], none⟩,
 ⟨(some 21), .cmp .lss, [.tmp 18, .tmp 20], none⟩] false)
 (.cond (.tmp 21)
 .skip
 (.exit 2)))
 (.seq (.block 3
 (.seq (.ops [
 ⟨(some 24), .mov, [.tmp 5], none⟩,
 ⟨(some 25), .mov, [.tmp 6], none⟩,
 ⟨(some 26), .bin .shr .i64 false, [.tmp 24, .tmp 25], none⟩,
 ⟨(some 27), .bin .and .i64 false, [.tmp 26, .const (.int .i64 1)], none⟩,
 ⟨(some 28), .cmp .eql, [.tmp 27, .const (.int .i64 1)], none⟩] false)
 (.cond (.tmp 28)
 (.ops [
 ⟨(some 29), .mov, [.tmp 4], none⟩,
 ⟨(some 30), .mov, [.tmp 5], none⟩,
 ⟨(some 31), .mov, [.tmp 4], none⟩,
 ⟨(some 32), .mov, [.tmp 5], none⟩,
 ⟨(some 33), .idx 1, [.tmp 31, .tmp 32], none⟩,
 ⟨(some 34), .load 1 false, [.tmp 33], none⟩,
 ⟨(some 35), .mov, [.tmp 4], none⟩,
 ⟨(some 36), .mov, [.tmp 5], none⟩,
 ⟨(some 37), .mov, [.tmp 6], none⟩,
 ⟨(some 38), .bin .shl .i64 false, [.const (.int .i64 1), .tmp 37], none⟩,
 ⟨(some 39), .bin .sub .i64 false, [.tmp 36, .tmp 38], none⟩,
 ⟨(some 40), .idx 1, [.tmp 35, .tmp 39], none⟩,
 ⟨(some 41), .load 1 false, [.tmp 40], none⟩,
 ⟨(some 42), .max, [.tmp 34, .tmp 41], none⟩,
 ⟨(some 43), .idx 1, [.tmp 29, .tmp 30], none⟩,
 ⟨none, .store 1, [.tmp 43, .tmp 42], none⟩] true)
 .skip)))
 (.ops [
 ⟨(some 22), .mov, [.tmp 6], none⟩,
 ⟨(some 23), .bin .add .i64 false, [.tmp 22, .const (.int .i64 1)], none⟩,
 ⟨(some 6), .mov, [.tmp 23], none⟩] false))))))
 (.seq (.ops [
 ⟨(some 44), .mov, [.tmp 3], none⟩,
 ⟨(some 45), .mov, [.tmp 5], none⟩,
 ⟨(some 46), .idx 1, [.tmp 44, .tmp 45], none⟩,
 ⟨(some 47), .load 1 false, [.tmp 46], none⟩,
 ⟨(some 48), .cmp .eql, [.tmp 47, .const (.int .i64 0)], none⟩] false)
 (.cond (.tmp 48)
 (.ops [
 ⟨(some 49), .mov, [.tmp 4], none⟩,
 ⟨(some 50), .mov, [.tmp 5], none⟩,
 ⟨(some 51), .idx 1, [.tmp 49, .tmp 50], none⟩,
 ⟨(some 52), .load 1 false, [.tmp 51], none⟩,
 ⟨(some 53), .bin .add .i64 false, [.tmp 52, .const (.int .i64 1)], none⟩,
 ⟨(some 54), .idx 1, [.tmp 49, .tmp 50], none⟩,
 ⟨none, .store 1, [.tmp 54, .tmp 53], none⟩] false)
 .skip))))
 (.ops [
 ⟨(some 16), .mov, [.tmp 5], none⟩,
 ⟨(some 17), .bin .add .i64 false, [.tmp 16, .const (.int .i64 1)], none⟩,
 ⟨(some 5), .mov, [.tmp 17], none⟩] false))))))
 (.seq (.ops [
 ⟨(some 55), .mov, [.tmp 4], none⟩,
 ⟨(some 2), .mov, [.tmp 55], none⟩] false)
 .ret)))))⟩
theorem rgroupsLow : lowF Tryz.prog {} Tryz.f97 = some rgroupsIr := by kernel_rfl
def rgroupsS : Spec := spec (List Share) (fun l => [L 2 (l.map encS)]) Few (fun l => L 1 (tabN (2 ^ l.length) (mosT l)))
set_option maxHeartbeats 1000000 in
theorem rgroupsV : fnV Tryz.prog rgroupsIr rgroupsS := by
  intro (l : List Share) hf
  replace hf : Few l := hf
  show vc _ _ _ _ ⟨argEnv 0 [L 2 (l.map encS)], [], 0⟩
  have h8 := hf.len
  have h256 := pow_le8 h8
  have hl : (l.map encS).length = l.length := List.length_map ..
  have hN := shl_eq h8
  rw [← hl] at hN
  generalize hNN : 2 ^ (l.map encS).length = N at hN
  have hNl : 2 ^ l.length = N := by rw [← hNN, hl]
  have hNp : 0 < N := by rw [← hNl]; exact Nat.two_pow_pos _
  repeat' ((conv => whnf); first | (refine ⟨_, rsums_h, l, hf, leVs_of_eq rfl, .inl rfl, rfl, ?_⟩; show norm (L 1 (tabN (2 ^ l.length) (sumT l))) _) | fail)
  rw [hNl]
  conv => whnf
  have htl : (tabN N (sumT l)).length = N := tabN_len _ _
  refine ⟨⟨by omega, by omega, by omega, by omega⟩, ?_⟩
  rw [htl, Int.toNat_natCast]
  conv => whnf
  refine ⟨Nat × (List (List CV)), fun xq => ⟨[(0, L 2 (l.map encS)), (3, L 1 (tabN N (sumT l))), (4, .osl 0), (5, I xq.1)], [(0, .row 3 1 xq.2)], 1⟩, fun xq => (1 ≤ xq.1 ∧ xq.1 ≤ N) ∧ ∃ F : Nat → Int, xq.2 = tabN N F ∧ MFil l xq.1 F ∧ (xq.1 < N → F xq.1 = 0), fun xq => N - xq.1, ⟨(1, _), ?_, [], ⟨⟨rfl, rfl⟩, ⟨⟨rfl, rfl⟩, ⟨⟨rfl, rfl⟩, ⟨⟨rfl, rfl⟩, trivial⟩⟩⟩⟩, ⟨⟨rfl, rfl, rfl⟩, trivial⟩, rfl, rfl, rfl⟩, ?_⟩
  · (try dsimp only); exact ⟨⟨Nat.le_refl _, hNp⟩, _, tabN_zero N, MFil.start l, fun _ => rfl⟩
  rintro ⟨S, es⟩ hk
  obtain ⟨⟨hS1, hSN⟩, F, he, hF, hF0⟩ : (1 ≤ S ∧ S ≤ N) ∧ ∃ F : Nat → Int, es = tabN N F ∧ MFil l S F ∧ (S < N → F S = 0) := hk
  (try dsimp only)
  have hel : es.length = N := by rw [he]; exact tabN_len N F
  by_cases hSl : S < N
  · have hS : S < 2 ^ l.length := by omega
    have hS8 : S < 256 := by omega
    conv => whnf
    refine ⟨fun h => ?_, fun h => absurd h (by omega)⟩
    conv => whnf
    refine ⟨Nat × (List (List CV)), fun xq => ⟨[(0, L 2 (l.map encS)), (3, L 1 (tabN N (sumT l))), (4, .osl 0), (5, I S), (6, I xq.1)], [(0, .row 3 1 xq.2)], 1⟩, fun xq => xq.1 ≤ l.length ∧ ∃ F : Nat → Int, xq.2 = tabN N F ∧ MFil l S F ∧ F S = (maxTo (mostB (amt l)) S xq.1 : Nat), fun xq => l.length - xq.1, ⟨(0, _), ?_, [], ⟨⟨rfl, rfl⟩, ⟨⟨rfl, rfl⟩, ⟨⟨rfl, rfl⟩, ⟨⟨rfl, rfl⟩, ⟨⟨rfl, rfl⟩, trivial⟩⟩⟩⟩⟩, ⟨⟨rfl, rfl, rfl⟩, trivial⟩, rfl, rfl, rfl⟩, ?_⟩
    · (try dsimp only); exact ⟨Nat.zero_le _, F, he, hF, hF0 hSl⟩
    rintro ⟨i, es⟩ hk
    obtain ⟨hi, F, he, hF, hFs⟩ : i ≤ l.length ∧ ∃ F : Nat → Int, es = tabN N F ∧ MFil l S F ∧ F S = (maxTo (mostB (amt l)) S i : Nat) := hk
    (try dsimp only)
    have hel : es.length = N := by rw [he]; exact tabN_len N F
    have k1 : es[(S : Int).toNat]? = some (cI (F S)) := by rw [he]; exact tabN_get (by omega)
    by_cases hil : i < l.length
    · cases hb : S.testBit i with
      | true =>
        have hbit := bit_yes hS8 (by omega) hb
        have hshl := shl_eq (k := i) (by omega)
        obtain ⟨c1, c2⟩ := clr_eq hS8 (by omega) hb
        have hlt := clr_lt hS8 (by omega) hb
        have hmx : (maxTo (mostB (amt l)) S (i + 1) : Nat) = max (maxTo (mostB (amt l)) S i) (mostB (amt l) (S ^^^ 2 ^ i)) := by rw [maxTo, if_pos hb]
        have q2 := (hF (S ^^^ 2 ^ i) (by omega)).1 hlt
        generalize hP : 2 ^ i = P at *
        have k2 : es[((S : Int) - (P : Nat)).toNat]? = some (cI (F (S ^^^ P))) := by rw [show ((S : Int) - (P : Nat)).toNat = S ^^^ P by omega, he]; exact tabN_get (by omega)
        repeat' ((conv => whnf); first | (refine ⟨(i + 1, _), ⟨?_, by (try dsimp only); omega⟩, [], ⟨⟨rfl, rfl⟩, ⟨⟨rfl, rfl⟩, ⟨⟨rfl, rfl⟩, ⟨⟨rfl, rfl⟩, ⟨⟨rfl, rfl⟩, trivial⟩⟩⟩⟩⟩, ⟨⟨rfl, rfl, rfl⟩, trivial⟩, rfl, rfl, rfl⟩; (try dsimp only); refine ⟨by omega, _, by rw [he]; exact tabN_set, hF.upd _, ?_⟩; simp only [updF, if_true]; rw [hmx, hFs, q2]; unfold mosT; omega) | (refine ⟨fun h => ?_, fun h => ?_⟩ <;> try (exfalso; first | omega | exact absurd h (by decide) | exact h rfl)) | refine get_at k1 ?_ | (rw [hshl] at *; refine get_at k2 ?_) | refine get_at k2 ?_ | (refine ⟨Int.natCast_nonneg _, ?_⟩) | (refine ⟨⟨by omega, by omega⟩, ?_⟩) | refine ⟨⟨by omega, by omega⟩, ?_⟩ | fail)
      | false =>
        have hbit := bit_no hS8 (by omega) hb
        repeat' ((conv => whnf); first | (refine ⟨(i + 1, _), ⟨?_, by (try dsimp only); omega⟩, [], ⟨⟨rfl, rfl⟩, ⟨⟨rfl, rfl⟩, ⟨⟨rfl, rfl⟩, ⟨⟨rfl, rfl⟩, ⟨⟨rfl, rfl⟩, trivial⟩⟩⟩⟩⟩, ⟨⟨rfl, rfl, rfl⟩, trivial⟩, rfl, rfl, rfl⟩; (try dsimp only); exact ⟨by omega, F, he, hF, by rw [maxTo, if_neg (by rw [hb]; decide), hFs]⟩) | (refine ⟨fun h => ?_, fun h => ?_⟩ <;> try (exfalso; first | omega | exact absurd h (by decide) | exact h rfl)) | (refine ⟨Int.natCast_nonneg _, ?_⟩) | refine ⟨⟨by omega, by omega⟩, ?_⟩ | fail)
    · have hil' : i = l.length := by omega
      subst hil'
      have hms := mos_step hf hS (by omega)
      have hmb := hf.most hS
      have hr : 0 ≤ F S ∧ F S ≤ 8 := by have : (0 : Int) ≤ mosT l S ∧ mosT l S ≤ 8 := ⟨by unfold mosT; omega, by unfold mosT; omega⟩; omega
      by_cases hz : sumB (amt l) S = 0
      · have hz' : sumT l S = 0 := hz
        have d2' : F S + 1 = mosT l S := by unfold zB at hms; rw [if_pos hz] at hms; omega
        repeat' ((conv => whnf); first | (refine ⟨(S + 1, _), ⟨?_, by (try dsimp only); omega⟩, [], ⟨⟨rfl, rfl⟩, ⟨⟨rfl, rfl⟩, ⟨⟨rfl, rfl⟩, ⟨⟨rfl, rfl⟩, trivial⟩⟩⟩⟩, ⟨⟨rfl, rfl, rfl⟩, trivial⟩, rfl, rfl, rfl⟩; (try dsimp only); refine ⟨⟨by omega, by omega⟩, _, by rw [he]; exact tabN_set, (hF.upd (F S + 1)).next (by simp [updF, d2']), fun h => ?_⟩; rw [show updF F S (F S + 1) (S + 1) = F (S + 1) by simp [updF]]; exact (hF (S + 1) (by omega)).2 (by omega)) | (refine ⟨fun h => ?_, fun h => ?_⟩ <;> try (exfalso; first | omega | exact absurd h (by decide) | exact h rfl)) | refine idx_tab (N := N) (H := sumT l) (j := S) rfl (by omega) ?_ | refine get_at k1 ?_ | (refine ⟨⟨by omega, by omega⟩, ?_⟩) | refine ⟨⟨by omega, by omega⟩, ?_⟩ | fail)
      · have hz' : sumT l S ≠ 0 := hz
        have d2' : F S = mosT l S := by unfold zB at hms; rw [if_neg hz] at hms; omega
        repeat' ((conv => whnf); first | (refine ⟨(S + 1, _), ⟨?_, by (try dsimp only); omega⟩, [], ⟨⟨rfl, rfl⟩, ⟨⟨rfl, rfl⟩, ⟨⟨rfl, rfl⟩, ⟨⟨rfl, rfl⟩, trivial⟩⟩⟩⟩, ⟨⟨rfl, rfl, rfl⟩, trivial⟩, rfl, rfl, rfl⟩; (try dsimp only); exact ⟨⟨by omega, by omega⟩, F, he, hF.next d2', fun h => (hF (S + 1) (by omega)).2 (by omega)⟩) | (refine ⟨fun h => ?_, fun h => ?_⟩ <;> try (exfalso; first | omega | exact absurd h (by decide) | exact h rfl)) | refine idx_tab (N := N) (H := sumT l) (j := S) rfl (by omega) ?_ | (refine ⟨⟨by omega, by omega⟩, ?_⟩) | refine ⟨⟨by omega, by omega⟩, ?_⟩ | fail)
  · conv => whnf
    refine ⟨fun h => absurd h (by omega), fun h => ?_⟩
    conv => whnf
    refine ⟨[], rfl, trivial, ?_⟩
    show leV (L 1 es) (L 1 (tabN (2 ^ l.length) (mosT l)))
    rw [he, hNl, tabN_congr (fun j hj => (hF j (by omega)).1 (by omega))]
    exact leV_refl _
theorem rgroups_h : Holds Tryz.prog 97 rgroupsS := holds_of mix Tryz.func97 rgroupsLow (fun _ => rfl) rgroupsV

/-! skiarea/netting.Least -/
end Go.Proofs.YtpkhannkbafimaaGreat
