/- Netting: Valid. -/
import Derived.Test.YtpkhannkbafimaaGreatF2
namespace Go.Proofs.YtpkhannkbafimaaGreat
open Go.RowKit

/-! skiarea/netting.Valid -/
def validIr : IFn := ⟨82, [.tmp 4],
 (.seq (.ops [
 ⟨(some 4), .mov, [.const (.bool false)], none⟩] false)
 (.seq (.seq (.ops [
 ⟨(some 12), .mov, [.tmp 0], none⟩,
 ⟨(some 13), .call 75, [.tmp 12], none⟩,
 ⟨(some 14), .cmp .neq, [.tmp 13, .const (.int .i64 0)], none⟩] false)
 (.cond (.tmp 14)
 (.seq (.ops [
 ⟨(some 4), .mov, [.const (.bool false)], none⟩] false)
 .ret)
 .skip))
 (.seq (.ops [
 ⟨(some 5), .allocA 111 2 [[.int .i64 0, .int .i64 0], [.int .i64 0, .int .i64 0], [.int .i64 0, .int .i64 0], [.int .i64 0, .int .i64 0], [.int .i64 0, .int .i64 0], [.int .i64 0, .int .i64 0], [.int .i64 0, .int .i64 0], [.int .i64 0, .int .i64 0], [.int .i64 0, .int .i64 0]], [], none⟩] false)
 (.seq (.seq (.ops [
 ⟨(some 15), .mov, [.tmp 0], none⟩,
 ⟨(some 16), .len, [.tmp 15], none⟩,
 ⟨(some 17), .mov, [.const (.int .i64 0)], none⟩] false)
 (.block 0
 (.loop
 (.seq (.ops [
 ⟨(some 18), .cmp .lss, [.tmp 17, .tmp 16], none⟩] false)
 (.seq (.cond (.tmp 18)
 .skip
 (.exit 0))
 (.seq (.block 1
 (.seq (.ops [
 ⟨(some 19), .idx 2, [.tmp 15, .tmp 17], none⟩,
 ⟨(some 20), .load 2 true, [.tmp 19], none⟩,
 ⟨(some 7), .alloc [.int .i64 0, .int .i64 0], [], none⟩,
 ⟨none, .store 2, [.tmp 7, .tmp 20], none⟩] false)
 (.ops [
 ⟨(some 21), .faddr 0, [.tmp 7], none⟩,
 ⟨(some 22), .load 1 false, [.tmp 21], none⟩,
 ⟨(some 23), .aidx 9 2, [.tmp 5, .tmp 22], none⟩,
 ⟨(some 24), .faddr 1, [.tmp 7], none⟩,
 ⟨(some 25), .load 1 false, [.tmp 24], none⟩,
 ⟨(some 26), .callg 76, [.tmp 23, .tmp 25, .const (.int .i64 (-1))], none⟩] true)))
 (.ops [
 ⟨(some 27), .bin .add .i64 false, [.tmp 17, .const (.int .i64 1)], none⟩,
 ⟨(some 17), .mov, [.tmp 27], none⟩] false)))))))
 (.seq (.seq (.ops [
 ⟨(some 28), .mov, [.tmp 1], none⟩,
 ⟨(some 29), .len, [.tmp 28], none⟩,
 ⟨(some 30), .mov, [.const (.int .i64 0)], none⟩] false)
 (.block 2
 (.loop
 (.seq (.ops [
 ⟨(some 31), .cmp .lss, [.tmp 30, .tmp 29], none⟩] false)
 (.seq (.cond (.tmp 31)
 .skip
 (.exit 2))
 (.seq (.block 3
 (.seq (.ops [
 ⟨(some 32), .idx 3, [.tmp 28, .tmp 30], none⟩,
 ⟨(some 33), .load 3 true, [.tmp 32], none⟩,
 ⟨(some 9), .alloc [.int .i64 0, .int .i64 0, .int .i64 0], [], none⟩,
 ⟨none, .store 3, [.tmp 9, .tmp 33], none⟩] false)
 (.seq (.seq (.ops [
 ⟨(some 34), .faddr 0, [.tmp 9], none⟩,
 ⟨(some 35), .load 1 false, [.tmp 34], none⟩,
 ⟨(some 36), .call 77, [.tmp 35], none⟩,
 ⟨(some 37), .not, [.tmp 36], none⟩,
 ⟨(some 38), .mov, [.tmp 37], none⟩,
 ⟨(some 39), .faddr 1, [.tmp 9], (some (38, false))⟩,
 ⟨(some 40), .load 1 false, [.tmp 39], (some (38, false))⟩,
 ⟨(some 41), .call 77, [.tmp 40], (some (38, false))⟩,
 ⟨(some 42), .not, [.tmp 41], (some (38, false))⟩,
 ⟨(some 43), .pick, [.tmp 38, .const (.bool true), .tmp 42], none⟩,
 ⟨(some 44), .mov, [.tmp 43], none⟩,
 ⟨(some 45), .faddr 0, [.tmp 9], (some (44, false))⟩,
 ⟨(some 46), .load 1 false, [.tmp 45], (some (44, false))⟩,
 ⟨(some 47), .faddr 1, [.tmp 9], (some (44, false))⟩,
 ⟨(some 48), .load 1 false, [.tmp 47], (some (44, false))⟩,
 ⟨(some 49), .cmp .eql, [.tmp 46, .tmp 48], (some (44, false))⟩,
 ⟨(some 50), .pick, [.tmp 44, .const (.bool true), .tmp 49], none⟩,
 ⟨(some 51), .mov, [.tmp 50], none⟩,
 ⟨(some 52), .faddr 2, [.tmp 9], (some (51, false))⟩,
 ⟨(some 53), .load 1 false, [.tmp 52], (some (51, false))⟩,
 ⟨(some 54), .cmp .lss, [.tmp 53, .const (.int .i64 1)], (some (51, false))⟩,
 ⟨(some 55), .pick, [.tmp 51, .const (.bool true), .tmp 54], none⟩,
 ⟨(some 56), .mov, [.tmp 55], none⟩,
 ⟨(some 57), .faddr 2, [.tmp 9], (some (56, false))⟩,
 ⟨(some 58), .load 1 false, [.tmp 57], (some (56, false))⟩,
 ⟨(some 59), .cmp .gtr, [.tmp 58, .const (.int .i64 1099511627776)], (some (56, false))⟩,
 ⟨(some 60), .pick, [.tmp 56, .const (.bool true), .tmp 59], none⟩] false)
 (.cond (.tmp 60)
 (.seq (.ops [
 ⟨(some 4), .mov, [.const (.bool false)], none⟩] false)
 .ret)
 .skip))
 (.seq (.ops [
 ⟨(some 61), .faddr 0, [.tmp 9], none⟩,
 ⟨(some 62), .load 1 false, [.tmp 61], none⟩,
 ⟨(some 63), .aidx 9 2, [.tmp 5, .tmp 62], none⟩,
 ⟨(some 64), .faddr 2, [.tmp 9], none⟩,
 ⟨(some 65), .load 1 false, [.tmp 64], none⟩,
 ⟨(some 66), .callg 76, [.tmp 63, .tmp 65, .const (.int .i64 (-1))], none⟩] true)
 (.ops [
 ⟨(some 67), .faddr 1, [.tmp 9], none⟩,
 ⟨(some 68), .load 1 false, [.tmp 67], none⟩,
 ⟨(some 69), .aidx 9 2, [.tmp 5, .tmp 68], none⟩,
 ⟨(some 70), .faddr 2, [.tmp 9], none⟩,
 ⟨(some 71), .load 1 false, [.tmp 70], none⟩,
 ⟨(some 72), .callg 76, [.tmp 69, .tmp 71, .const (.int .i64 1)], none⟩] true)))))
 (.ops [
 ⟨(some 73), .bin .add .i64 false, [.tmp 30, .const (.int .i64 1)], none⟩,
 ⟨(some 30), .mov, [.tmp 73], none⟩] false)))))))
 (.seq (.seq (.ops [
 ⟨(some 74), .loadA 9 2, [.tmp 5], none⟩,
 ⟨(some 75), .mov, [.const (.int .i64 0)], none⟩] false)
 (.block 4
 (.loop
 (.seq (.ops [
 ⟨(some 76), .cmp .lss, [.tmp 75, .const (.int .i64 9)], none⟩] false)
 (.seq (.cond (.tmp 76)
 .skip
 (.exit 4))
 (.seq (.block 5
 (.seq (.ops [
 ⟨(some 77), .aget 9 2 true, [.tmp 74, .tmp 75], none⟩,
 ⟨(some 11), .alloc [.int .i64 0, .int .i64 0], [], none⟩,
 ⟨none, .store 2, [.tmp 11, .tmp 77], none⟩] false)
 (.seq (.ops [
 ⟨(some 78), .load 2 true, [.tmp 11], none⟩,
 ⟨(some 79), .call 78, [.tmp 78], none⟩,
 ⟨(some 80), .not, [.tmp 79], none⟩] false)
 (.cond (.tmp 80)
 (.seq (.ops [
 ⟨(some 4), .mov, [.const (.bool false)], none⟩] false)
 .ret)
 .skip))))
 (.ops [
 ⟨(some 81), .bin .add .i64 false, [.tmp 75, .const (.int .i64 1)], none⟩,
 ⟨(some 75), .mov, [.tmp 81], none⟩] false)))))))
 (.seq (.ops [
 ⟨(some 4), .mov, [.const (.bool true)], none⟩] false)
 .ret)))))))⟩
theorem validLow : lowF Tryz.prog { gvs := [26, 66, 72] } Tryz.f39 = some validIr := by kernel_rfl
def validS : Spec := spec (List Share × List Tfer) (fun p => [L 2 (p.1.map encS), L 3 (p.2.map encT)]) (fun p => RightP p.1 ∧ p.2.length ≤ 1000) (fun p => B (validB p.1 p.2))
set_option maxHeartbeats 1000000 in
theorem validV : fnV Tryz.prog validIr validS := by
  intro ⟨(l : List Share), (t : List Tfer)⟩ hx
  obtain ⟨hr, ht⟩ : RightP l ∧ t.length ≤ 1000 := hx
  have hr0 := right_iff.2 hr
  have hlen := hr.len
  show vc _ _ _ _ ⟨argEnv 0 [L 2 (l.map encS), L 3 (t.map encT)], [], 0⟩
  have hl : (l.map encS).length = l.length := List.length_map ..
  have htl : (t.map encT).length = t.length := List.length_map ..
  repeat' ((conv => whnf); first | (refine ⟨fun h => ?_, fun h => ?_⟩ <;> try (exfalso; first | omega | exact absurd h (by decide) | exact h rfl)) | (refine ⟨_, right_h, l, (by show l.length ≤ _; omega), leVs_of_eq rfl, .inl rfl, rfl, ?_⟩; show norm (I (rightF l)) _; rw [hr0]) | fail)
  conv => whnf
  refine ⟨Nat × (List (List CV)), fun xq => ⟨[(1, L 3 (t.map encT)), (5, .ep 0 2 0 0), (15, L 2 (l.map encS)), (16, I (l.map encS).length), (17, I xq.1)], [(0, .row 111 2 xq.2)], 1⟩, fun xq => xq.1 ≤ l.length ∧ ∃ H Lw : Nat → Int, xq.2 = tabP H Lw ∧ ∀ v, v < 9 → H v * 1048576 + Lw v = - posAt (l.take xq.1) v ∧ bnd (H v) (Lw v) xq.1, fun xq => l.length - xq.1, ⟨(0, _), ?_, [], ⟨⟨rfl, rfl⟩, ⟨⟨rfl, rfl⟩, ⟨⟨rfl, rfl⟩, ⟨⟨rfl, rfl⟩, ⟨⟨rfl, rfl⟩, trivial⟩⟩⟩⟩⟩, ⟨⟨rfl, rfl, rfl⟩, trivial⟩, rfl, rfl, rfl⟩, ?_⟩
  · (try dsimp only); exact ⟨Nat.zero_le _, fun _ => 0, fun _ => 0, rfl, fun v hv => ⟨rfl, bnd0⟩⟩
  rintro ⟨k, es⟩ hk
  obtain ⟨hk, H, Lw, he, hI⟩ : k ≤ l.length ∧ ∃ H Lw : Nat → Int, es = tabP H Lw ∧ ∀ v, v < 9 → H v * 1048576 + Lw v = - posAt (l.take k) v ∧ bnd (H v) (Lw v) k := hk
  (try dsimp only)
  by_cases hkl : k < l.length
  · obtain ⟨x, hx⟩ := getElem_some hkl
    obtain ⟨hxo, hxa⟩ := hr.ok x (List.mem_of_getElem? hx)
    have hi : x.o.toNat < 9 := by omega
    have hbi := (hI _ hi).2
    unfold bnd at hbi
    repeat' ((conv => whnf); first | (refine ⟨fun h => ?_, fun h => ?_⟩ <;> try (exfalso; first | omega | exact absurd h (by decide) | exact h rfl)) | (refine ⟨by omega, fun r hrr => ?_⟩; obtain rfl := get_row hrr hx) | (refine ⟨⟨by omega, by omega⟩, ?_⟩) | fail)
    conv => whnf
    refine ⟨[0], _, add_g, ⟨111, _, x.o.toNat, H x.o.toNat, Lw x.o.toNat, x.a, -1⟩, (addPre (he ▸ tabP_get hi) (.inr rfl) (by omega) (by omega) (by omega)), ⟨⟨⟨rfl, rfl, rfl⟩, trivial⟩, rfl, rfl, rfl⟩, ⟨⟨rfl, rfl⟩, rfl, rfl, trivial⟩, .inl rfl, ⟨⟨⟨⟨rfl, rfl⟩, by simp⟩, trivial⟩, trivial⟩, ?_⟩
    conv => whnf
    refine ⟨⟨by omega, by omega⟩, ?_⟩
    conv => whnf
    (refine ⟨(k + 1, _), ⟨?_, by (try dsimp only); omega⟩, [], ⟨⟨rfl, rfl⟩, ⟨⟨rfl, rfl⟩, ⟨⟨rfl, rfl⟩, ⟨⟨rfl, rfl⟩, ⟨⟨rfl, rfl⟩, trivial⟩⟩⟩⟩⟩, ⟨⟨rfl, rfl, rfl⟩, trivial⟩, rfl, rfl, rfl⟩; (try dsimp only); refine ⟨by omega, _, _, (by rw [he]; exact tabP_set), fun v hv => ?_⟩; obtain ⟨q1, q2⟩ := inv_add (n := x.a) (sg := -1) hI hi (.inr rfl) (by omega) v hv; refine ⟨?_, q2⟩; rw [q1, posAt_take hx, if_op hxo]; split <;> omega)
  have hkl' : k = l.length := by omega
  subst hkl'
  rw [List.take_of_length_le (Nat.le_refl _)] at hI
  conv => whnf
  refine ⟨fun h => absurd h (by omega), fun h => ?_⟩
  conv => whnf
  refine ⟨Nat × (List (List CV)), fun xq => ⟨[(5, .ep 0 2 0 0), (28, L 3 (t.map encT)), (29, I (t.map encT).length), (30, I xq.1)], [(0, .row 111 2 xq.2)], 1⟩, fun xq => xq.1 ≤ t.length ∧ (∀ y ∈ t.take xq.1, okV y) ∧ ∃ H Lw : Nat → Int, xq.2 = tabP H Lw ∧ ∀ v, v < 9 → H v * 1048576 + Lw v = bal (t.take xq.1) v - posAt l v ∧ bnd (H v) (Lw v) (8 + 2 * xq.1), fun xq => t.length - xq.1, ⟨(0, _), ?_, [], ⟨⟨rfl, rfl⟩, ⟨⟨rfl, rfl⟩, ⟨⟨rfl, rfl⟩, ⟨⟨rfl, rfl⟩, trivial⟩⟩⟩⟩, ⟨⟨rfl, rfl, rfl⟩, trivial⟩, rfl, rfl, rfl⟩, ?_⟩
  · (try dsimp only); exact ⟨Nat.zero_le _, by simp, H, Lw, he, fun v hv => ⟨by rw [(hI v hv).1]; simp [bal], by have := (hI v hv).2; unfold bnd at this ⊢; omega⟩⟩
  rintro ⟨k, es⟩ hk
  obtain ⟨hk, hok, H, Lw, he, hI⟩ : k ≤ t.length ∧ (∀ y ∈ t.take k, okV y) ∧ ∃ H Lw : Nat → Int, es = tabP H Lw ∧ ∀ v, v < 9 → H v * 1048576 + Lw v = bal (t.take k) v - posAt l v ∧ bnd (H v) (Lw v) (8 + 2 * k) := hk
  (try dsimp only)
  by_cases hkl : k < t.length
  · obtain ⟨x, hx⟩ := getElem_some hkl
    by_cases hb : okV x
    · obtain ⟨o1, o2, o3, o4, o5⟩ := id hb
      have o1' := o1
      have o2' := o2
      unfold okO at o1' o2'
      have hi : x.f.toNat < 9 := by omega
      have hj : x.t.toNat < 9 := by omega
      have hne : x.t.toNat ≠ x.f.toNat := by omega
      have hbi := (hI _ hi).2
      have hbj := (hI _ hj).2
      unfold bnd at hbi hbj
      repeat' ((conv => whnf); first | (refine ⟨fun h => ?_, fun h => ?_⟩ <;> try (exfalso; first | omega | exact absurd h (by decide) | exact h rfl)) | (refine ⟨by omega, fun r hrr => ?_⟩; obtain rfl := get_row hrr hx) | (refine ⟨_, oper_h, x.f, trivial, leVs_of_eq rfl, .inl rfl, rfl, ?_⟩; show norm (B (decide (okO x.f))) _; rw [decide_eq_true o1]) | (refine ⟨_, oper_h, x.t, trivial, leVs_of_eq rfl, .inl rfl, rfl, ?_⟩; show norm (B (decide (okO x.t))) _; rw [decide_eq_true o2]) | (refine ⟨⟨by omega, by omega⟩, ?_⟩) | fail)
      conv => whnf
      refine ⟨[0], _, add_g, ⟨111, _, x.f.toNat, H x.f.toNat, Lw x.f.toNat, x.a, -1⟩, (addPre (he ▸ tabP_get hi) (.inr rfl) (by omega) (by omega) (by omega)), ⟨⟨⟨rfl, rfl, rfl⟩, trivial⟩, rfl, rfl, rfl⟩, ⟨⟨rfl, rfl⟩, rfl, rfl, trivial⟩, .inl rfl, ⟨⟨⟨⟨rfl, rfl⟩, by simp⟩, trivial⟩, trivial⟩, ?_⟩
      conv => whnf
      refine ⟨⟨by omega, by omega⟩, ?_⟩
      conv => whnf
      have hg2 : (es.set x.f.toNat [CV.int .i64 (H x.f.toNat + -1 * (x.a / 1048576)), .int .i64 (Lw x.f.toNat + -1 * (x.a % 1048576))])[x.t.toNat]? = some [.int .i64 (H x.t.toNat), .int .i64 (Lw x.t.toNat)] := by rw [List.getElem?_set_ne hne.symm, he]; exact tabP_get hj
      refine ⟨[0], _, add_g, ⟨111, _, x.t.toNat, H x.t.toNat, Lw x.t.toNat, x.a, 1⟩, (addPre hg2 (.inl rfl) (by omega) (by omega) (by omega)), ⟨⟨⟨rfl, rfl, rfl⟩, trivial⟩, rfl, rfl, rfl⟩, ⟨⟨rfl, rfl⟩, rfl, rfl, trivial⟩, .inl rfl, ⟨⟨⟨⟨rfl, rfl⟩, by simp⟩, trivial⟩, trivial⟩, ?_⟩
      conv => whnf
      refine ⟨⟨by omega, by omega⟩, ?_⟩
      conv => whnf
      have q := inv_add (n := x.a) (sg := -1) hI hi (.inr rfl) (by omega)
      have q' := inv_add (n := x.a) (sg := 1) q hj (.inl rfl) (by omega)
      have u1 : updF H x.f.toNat (H x.f.toNat + -1 * (x.a / 1048576)) x.t.toNat = H x.t.toNat := by simp [updF, hne]
      have u2 : updF Lw x.f.toNat (Lw x.f.toNat + -1 * (x.a % 1048576)) x.t.toNat = Lw x.t.toNat := by simp [updF, hne]
      rw [u1, u2] at q'
      (refine ⟨(k + 1, _), ⟨?_, by (try dsimp only); omega⟩, [], ⟨⟨rfl, rfl⟩, ⟨⟨rfl, rfl⟩, ⟨⟨rfl, rfl⟩, ⟨⟨rfl, rfl⟩, trivial⟩⟩⟩⟩, ⟨⟨rfl, rfl, rfl⟩, trivial⟩, rfl, rfl, rfl⟩; (try dsimp only); refine ⟨by omega, all_step hx hok hb, _, _, (by rw [he, tabP_set, tabP_set]), fun v hv => ?_⟩; obtain ⟨q1, q2⟩ := q' v hv; refine ⟨?_, by rw [show 8 + 2 * (k + 1) = 8 + 2 * k + 1 + 1 by omega]; exact q2⟩; rw [q1, bal_take hx, if_op o1, if_op o2]; split <;> split <;> omega)
    · have hb' := hb
      unfold okV at hb'
      by_cases o1 : okO x.f
      · by_cases o2 : okO x.t
        · repeat' ((conv => whnf); first | (refine ⟨fun h => ?_, fun h => ?_⟩ <;> try (exfalso; first | omega | exact absurd h (by decide) | exact h rfl)) | (refine ⟨by omega, fun r hrr => ?_⟩; obtain rfl := get_row hrr hx) | (refine ⟨_, oper_h, x.f, trivial, leVs_of_eq rfl, .inl rfl, rfl, ?_⟩; show norm (B (decide (okO x.f))) _; rw [decide_eq_true o1]) | (refine ⟨_, oper_h, x.t, trivial, leVs_of_eq rfl, .inl rfl, rfl, ?_⟩; show norm (B (decide (okO x.t))) _; rw [decide_eq_true o2]) | refine ⟨[], rfl, trivial, congrArg CV.bool ?_⟩ | fail)
          all_goals first | exact (valid_bad hx hb).symm | (exfalso; exact hb' ⟨o1, o2, by omega, by omega, by omega⟩)
        · repeat' ((conv => whnf); first | (refine ⟨fun h => ?_, fun h => ?_⟩ <;> try (exfalso; first | omega | exact absurd h (by decide) | exact h rfl)) | (refine ⟨by omega, fun r hrr => ?_⟩; obtain rfl := get_row hrr hx) | (refine ⟨_, oper_h, x.f, trivial, leVs_of_eq rfl, .inl rfl, rfl, ?_⟩; show norm (B (decide (okO x.f))) _; rw [decide_eq_true o1]) | (refine ⟨_, oper_h, x.t, trivial, leVs_of_eq rfl, .inl rfl, rfl, ?_⟩; show norm (B (decide (okO x.t))) _; rw [decide_eq_false o2]) | refine ⟨[], rfl, trivial, congrArg CV.bool ?_⟩ | fail)
          all_goals exact (valid_bad hx hb).symm
      · repeat' ((conv => whnf); first | (refine ⟨fun h => ?_, fun h => ?_⟩ <;> try (exfalso; first | omega | exact absurd h (by decide) | exact h rfl)) | (refine ⟨by omega, fun r hrr => ?_⟩; obtain rfl := get_row hrr hx) | (refine ⟨_, oper_h, x.f, trivial, leVs_of_eq rfl, .inl rfl, rfl, ?_⟩; show norm (B (decide (okO x.f))) _; rw [decide_eq_false o1]) | refine ⟨[], rfl, trivial, congrArg CV.bool ?_⟩ | fail)
        all_goals exact (valid_bad hx hb).symm
  have hkl' : k = t.length := by omega
  subst hkl'
  rw [List.take_of_length_le (Nat.le_refl _)] at hI hok
  conv => whnf
  refine ⟨fun h => absurd h (by omega), fun h => ?_⟩
  conv => whnf
  have hel : es.length = 9 := by rw [he]; exact tabP_len H Lw
  refine ⟨hel, ?_⟩
  conv => whnf
  refine ⟨Nat, fun xq => ⟨[(74, .agg (es.flatten.map .c)), (75, I xq)], [], 0⟩, fun xq => xq ≤ 9 ∧ ∀ v : Nat, v < xq → bal t v - posAt l v = 0, fun xq => 9 - xq, ⟨0, ?_, [], ⟨⟨congrArg some (ren_closed _ _).symm, bnd_closed _ _⟩, ⟨⟨rfl, rfl⟩, trivial⟩⟩, trivial, rfl, rfl, rfl⟩, ?_⟩
  · (try dsimp only); exact ⟨by omega, fun v hv => by omega⟩
  rintro k hk
  obtain ⟨hk, hz⟩ : k ≤ 9 ∧ ∀ v : Nat, v < k → bal t v - posAt l v = 0 := hk
  (try dsimp only)
  by_cases hk9 : k < 9
  · obtain ⟨q1, q2⟩ := hI k hk9
    unfold bnd at q2
    conv => whnf
    refine ⟨fun h => ?_, fun h => absurd h (by omega)⟩
    conv => whnf
    refine ⟨es, rfl, he ▸ tabP_row H Lw, ⟨by omega, by omega, hel.symm⟩, fun r hr' => ?_⟩
    rw [Int.toNat_natCast, he, tabP_get hk9] at hr'
    cases hr'
    by_cases hz0 : bal t k - posAt l k = 0
    · repeat' ((conv => whnf); first | (refine ⟨k + 1, ⟨?_, by (try dsimp only); omega⟩, [], ⟨⟨congrArg some (ren_closed _ _).symm, bnd_closed _ _⟩, ⟨⟨rfl, rfl⟩, trivial⟩⟩, trivial, rfl, rfl, rfl⟩; (try dsimp only); exact ⟨by omega, fun v hv => by by_cases e : v = k; (subst e; exact hz0); exact hz v (by omega)⟩) | (refine ⟨fun h => ?_, fun h => ?_⟩ <;> try (exfalso; first | omega | exact absurd h (by decide) | exact h rfl)) | (refine ⟨_, zero_h, (H k, Lw k), (by show (_ ∧ _) ∧ _ ∧ _; omega), leVs_of_eq rfl, .inl rfl, rfl, ?_⟩; show norm (B (decide (H k * 1048576 + Lw k = 0))) _; rw [decide_eq_true (q1.trans hz0)]) | refine ⟨⟨by omega, by omega⟩, ?_⟩ | fail)
    · repeat' ((conv => whnf); first | (refine ⟨fun h => ?_, fun h => ?_⟩ <;> try (exfalso; first | omega | exact absurd h (by decide) | exact h rfl)) | (refine ⟨_, zero_h, (H k, Lw k), (by show (_ ∧ _) ∧ _ ∧ _; omega), leVs_of_eq rfl, .inl rfl, rfl, ?_⟩; show norm (B (decide (H k * 1048576 + Lw k = 0))) _; rw [decide_eq_false (fun e => hz0 (q1.symm.trans e))]) | refine ⟨[], rfl, trivial, congrArg CV.bool ?_⟩ | fail)
      all_goals exact (valid_no hr hok hk9 hz0).symm
  · repeat' ((conv => whnf); first | (refine ⟨fun h => ?_, fun h => ?_⟩ <;> try (exfalso; first | omega | exact absurd h (by decide) | exact h rfl)) | refine ⟨[], rfl, trivial, congrArg CV.bool ?_⟩ | fail)
    all_goals exact (valid_yes hok fun v hv => hz v (by omega)).symm
theorem valid_h : Holds Tryz.prog 39 validS := holds_of mix Tryz.func39 validLow (fun _ => rfl) validV

end Go.Proofs.YtpkhannkbafimaaGreat
