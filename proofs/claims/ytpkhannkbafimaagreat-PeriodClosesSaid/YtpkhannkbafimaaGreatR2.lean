/- Periods: shares that are accepted; a ride alone; the end. -/
import Derived.Test.YtpkhannkbafimaaGreatR1
import Derived.Test.YtpkhannkbafimaaGreatF9
namespace Go.Proofs.YtpkhannkbafimaaGreat
open Go.RowKit
abbrev encD (r : Ride) : List CV := [.int .i64 r.gate, .int .i64 r.seq, .int .i64 r.serial, .int .i64 r.counter, .int .i64 r.product, .int .i64 r.lift, .int .i64 r.time]
abbrev aD (r : Ride) : SV := .agg ((encD r).map .c)
abbrev encO (r : Pst) : List CV := [.int .i64 r.ref, .int .i64 r.fr, .int .i64 r.to, .int .i64 r.am]
abbrev aO (r : Pst) : SV := .agg ((encO r).map .c)
abbrev encP (p : Per) : List CV := [.int .i64 p.num, .int .i64 p.fr, .int .i64 p.to, .bool p.cl, .sl 2 (p.sh.map encS)]
abbrev aP (p : Per) : SV := .agg ((encP p).map .c)
abbrev encC (c : Cnt) : List CV := .int .i64 c.per :: encD c.r
abbrev aB (b : Bk) : SV := .agg [L 5 (b.ps.map encP), L 4 (b.po.map encO), L 8 (b.rs.map encC)]
abbrev bB' (b : Bk) : Ob := .box [L 5 (b.ps.map encP), L 4 (b.po.map encO), L 8 (b.rs.map encC)]
def okB (b : Bk) : Prop := (b.ps.length ≤ 9223372036854775807 ∧ b.po.length ≤ 9223372036854775807) ∧ b.rs.length ≤ 9223372036854775807 ∧ ∀ p ∈ b.ps, p.sh.length ≤ 9223372036854775807
theorem acc_no {l : List Share} {k : Nat} (hk : k < l.length) (h0 : fe (accE l) k = 0) (h : accE l k = 1) : accB l = false := decide_eq_false (by rw [fe_hit hk h0 h (by decide)]; decide)
theorem acc_yes {l : List Share} (h0 : fe (accE l) l.length = 0) : accB l = true := decide_eq_true h0
def idP (n : Int) : Prop := 1 ≤ n ∧ n ≤ 9999
instance (n : Int) : Decidable (idP n) := by unfold idP; infer_instance

/-! skiarea/period.accepted -/
def accIr : IFn := ⟨44, [.tmp 2],
 (.seq (.ops [
 ⟨(some 2), .mov, [.const (.bool false)], none⟩] false)
 (.seq (.seq (.ops [
 ⟨(some 5), .mov, [.tmp 0], none⟩,
 ⟨(some 6), .len, [.tmp 5], none⟩,
 ⟨(some 7), .mov, [.const (.int .i64 0)], none⟩] false)
 (.block 0
 (.loop
 (.seq (.ops [
 ⟨(some 8), .cmp .lss, [.tmp 7, .tmp 6], none⟩] false)
 (.seq (.cond (.tmp 8)
 .skip
 (.exit 0))
 (.seq (.block 1
 (.seq (.ops [
 ⟨(some 9), .mov, [.tmp 7], none⟩,
 ⟨(some 10), .idx 2, [.tmp 5, .tmp 7], none⟩,
 ⟨(some 11), .load 2 true, [.tmp 10], none⟩,
 ⟨(some 4), .alloc [.int .i64 0, .int .i64 0], [], none⟩,
 ⟨(some 3), .mov, [.tmp 9], none⟩,
 ⟨none, .store 2, [.tmp 4, .tmp 11], none⟩] false)
 (.seq (.seq (.ops [
 ⟨(some 12), .faddr 0, [.tmp 4], none⟩,
 ⟨(some 13), .load 1 false, [.tmp 12], none⟩,
 ⟨(some 14), .cmp .lss, [.tmp 13, .const (.int .i64 1)], none⟩,
 ⟨(some 15), .mov, [.tmp 14], none⟩,
 ⟨(some 16), .faddr 0, [.tmp 4], (some (15, false))⟩,
 ⟨(some 17), .load 1 false, [.tmp 16], (some (15, false))⟩,
 ⟨(some 18), .cmp .gtr, [.tmp 17, .const (.int .i64 8)], (some (15, false))⟩,
 ⟨(some 19), .pick, [.tmp 15, .const (.bool true), .tmp 18], none⟩,
 ⟨(some 20), .mov, [.tmp 19], none⟩,
 ⟨(some 21), .faddr 1, [.tmp 4], (some (20, false))⟩,
 ⟨(some 22), .load 1 false, [.tmp 21], (some (20, false))⟩,
 ⟨(some 23), .cmp .lss, [.tmp 22, .const (.int .i64 0)], (some (20, false))⟩,
 ⟨(some 24), .pick, [.tmp 20, .const (.bool true), .tmp 23], none⟩,
 ⟨(some 25), .mov, [.tmp 24], none⟩,
 ⟨(some 26), .faddr 1, [.tmp 4], (some (25, false))⟩,
 ⟨(some 27), .load 1 false, [.tmp 26], (some (25, false))⟩,
 ⟨(some 28), .cmp .gtr, [.tmp 27, .const (.int .i64 137438953472)], (some (25, false))⟩,
 ⟨(some 29), .pick, [.tmp 25, .const (.bool true), .tmp 28], none⟩] false)
 (.cond (.tmp 29)
 (.seq (.ops [
 ⟨(some 2), .mov, [.const (.bool false)], none⟩] false)
 .ret)
 .skip))
 (.seq (.ops [
 ⟨(some 30), .mov, [.tmp 3], none⟩,
 ⟨(some 31), .cmp .gtr, [.tmp 30, .const (.int .i64 0)], none⟩,
 ⟨(some 32), .mov, [.tmp 31], none⟩,
 ⟨(some 33), .faddr 0, [.tmp 4], (some (32, true))⟩,
 ⟨(some 34), .load 1 false, [.tmp 33], (some (32, true))⟩,
 ⟨(some 35), .mov, [.tmp 0], (some (32, true))⟩,
 ⟨(some 36), .mov, [.tmp 3], (some (32, true))⟩,
 ⟨(some 37), .bin .sub .i64 false, [.tmp 36, .const (.int .i64 1)], (some (32, true))⟩,
 ⟨(some 38), .idx 2, [.tmp 35, .tmp 37], (some (32, true))⟩,
 ⟨(some 39), .faddr 0, [.tmp 38], (some (32, true))⟩,
 ⟨(some 40), .load 1 false, [.tmp 39], (some (32, true))⟩,
 ⟨(some 41), .cmp .leq, [.tmp 34, .tmp 40], (some (32, true))⟩,
 ⟨(some 42), .pick, [.tmp 32, .tmp 41, .const (.bool false)], none⟩] true)
 (.cond (.tmp 42)
 (.seq (.ops [
 ⟨(some 2), .mov, [.const (.bool false)], none⟩] false)
 .ret)
 .skip)))))
 (.ops [
 ⟨(some 43), .bin .add .i64 false, [.tmp 7, .const (.int .i64 1)], none⟩,
 ⟨(some 7), .mov, [.tmp 43], none⟩] false)))))))
 (.seq (.ops [
 ⟨(some 2), .mov, [.const (.bool true)], none⟩] false)
 .ret)))⟩
theorem accLow : lowF Tryz.prog {} Tryz.f61 = some accIr := by kernel_rfl
def accS : Spec := spec (List Share) (fun l => [L 2 (l.map encS)]) (fun l => l.length ≤ 9223372036854775807) (fun l => B (accB l))
theorem accV : fnV Tryz.prog accIr accS := by
  intro (l : List Share) hx
  replace hx : l.length ≤ 9223372036854775807 := hx
  have hl : (l.map encS).length = l.length := List.length_map ..
  show vc _ _ _ _ ⟨argEnv 0 [L 2 (l.map encS)], [], 0⟩
  conv => whnf
  refine ⟨Nat, fun xq => ⟨[(0, L 2 (l.map encS)), (5, L 2 (l.map encS)), (6, I (l.map encS).length), (7, I xq)], [], 0⟩, fun xq => xq ≤ l.length ∧ fe (accE l) xq = 0, fun xq => l.length - xq, ⟨0, ?_, [], ⟨⟨rfl, rfl⟩, ⟨⟨rfl, rfl⟩, ⟨⟨rfl, rfl⟩, ⟨⟨rfl, rfl⟩, trivial⟩⟩⟩⟩, trivial, rfl, rfl, rfl⟩, ?_⟩
  · (try dsimp only); exact ⟨Nat.zero_le _, rfl⟩
  rintro k hk
  obtain ⟨hk, h0⟩ : k ≤ l.length ∧ fe (accE l) k = 0 := hk
  (try dsimp only)
  by_cases hkl : k < l.length
  · obtain ⟨x, hx⟩ := getElem_some hkl
    have hE : accE l k = if ¬ accP x then 1 else if 0 < k ∧ x.o ≤ (at_ l share0 (k - 1)).o then 1 else 0 := by unfold accE; rw [at_of hx]
    have hp : accP x = ((1 ≤ x.o ∧ x.o ≤ 8) ∧ 0 ≤ x.a ∧ x.a ≤ 137438953472) := rfl
    by_cases hb : accP x
    · rw [if_neg (Decidable.not_not.2 hb)] at hE
      rw [hp] at hb
      by_cases hk0 : k = 0
      · subst hk0
        repeat' ((conv => whnf); first | (refine ⟨fun h => ?_, fun h => ?_⟩ <;> try (exfalso; first | omega | exact absurd h (by decide) | exact h rfl)) | (refine ⟨by omega, fun r hrr => ?_⟩; first | ((have hre : r = encS x := by (first | exact get_row hrr hx | fail)); subst hre)) | (refine ⟨_ + 1, ⟨?_, by (try dsimp only); omega⟩, [], ⟨⟨rfl, rfl⟩, ⟨⟨rfl, rfl⟩, ⟨⟨rfl, rfl⟩, ⟨⟨rfl, rfl⟩, trivial⟩⟩⟩⟩, trivial, rfl, rfl, rfl⟩; (try dsimp only); exact ⟨by omega, fe_go h0 (hE.trans (if_neg (by omega)))⟩) | refine ⟨⟨by omega, by omega⟩, ?_⟩ | fail)
      · obtain ⟨y, hy⟩ := getElem_some (show k - 1 < l.length by omega)
        rw [at_of hy] at hE
        by_cases hle : x.o ≤ y.o
        · repeat' ((conv => whnf); first | (refine ⟨fun h => ?_, fun h => ?_⟩ <;> try (exfalso; first | omega | exact absurd h (by decide) | exact h rfl)) | (refine ⟨by omega, fun r hrr => ?_⟩; first | ((have hre : r = encS x := by (first | exact get_row hrr hx | fail)); subst hre) | ((have hre : r = encS y := by (first | exact get_rowi (j := k - 1) hrr (by omega) hy | fail)); subst hre)) | refine ⟨⟨by omega, by omega⟩, ?_⟩ | fail | fail)
          all_goals (refine ⟨[], rfl, trivial, congrArg CV.bool ?_⟩; exact (acc_no hkl h0 (hE.trans (if_pos ⟨by omega, hle⟩))).symm)
        · repeat' ((conv => whnf); first | (refine ⟨fun h => ?_, fun h => ?_⟩ <;> try (exfalso; first | omega | exact absurd h (by decide) | exact h rfl)) | (refine ⟨by omega, fun r hrr => ?_⟩; first | ((have hre : r = encS x := by (first | exact get_row hrr hx | fail)); subst hre) | ((have hre : r = encS y := by (first | exact get_rowi (j := k - 1) hrr (by omega) hy | fail)); subst hre)) | (refine ⟨k + 1, ⟨?_, by (try dsimp only); omega⟩, [], ⟨⟨rfl, rfl⟩, ⟨⟨rfl, rfl⟩, ⟨⟨rfl, rfl⟩, ⟨⟨rfl, rfl⟩, trivial⟩⟩⟩⟩, trivial, rfl, rfl, rfl⟩; (try dsimp only); exact ⟨by omega, fe_go h0 (hE.trans (if_neg (by omega)))⟩) | refine ⟨⟨by omega, by omega⟩, ?_⟩ | fail)
    · have hE1 := hE.trans (if_pos hb)
      rw [hp] at hb
      repeat' ((conv => whnf); first | (refine ⟨fun h => ?_, fun h => ?_⟩ <;> try (exfalso; first | omega | exact absurd h (by decide) | exact h rfl)) | (refine ⟨by omega, fun r hrr => ?_⟩; first | ((have hre : r = encS x := by (first | exact get_row hrr hx | fail)); subst hre)) | fail | fail)
      all_goals (refine ⟨[], rfl, trivial, congrArg CV.bool ?_⟩; exact (acc_no hkl h0 hE1).symm)
  · have hkn : k = l.length := by omega
    subst hkn
    repeat' ((conv => whnf); first | (refine ⟨fun h => ?_, fun h => ?_⟩ <;> try (exfalso; first | omega | exact absurd h (by decide) | exact h rfl)) | fail | fail)
    all_goals (refine ⟨[], rfl, trivial, congrArg CV.bool ?_⟩; exact (acc_yes h0).symm)
theorem acc_h : Holds Tryz.prog 61 accS := holds_of mix Tryz.func61 accLow (fun _ => rfl) accV

/-! skiarea/skiarearef38.Accepted -/
def raccIr : IFn := ⟨58, [.tmp 2],
 (.seq (.ops [
 ⟨(some 2), .mov, [.const (.bool false)], none⟩] false)
 (.seq (.seq (.ops [
 ⟨(some 3), .mov, [.const (.int .i64 0)], none⟩] false)
 (.block 0
 (.loop
 (.seq (.seq (.ops [
 ⟨(some 4), .mov, [.tmp 3], none⟩,
 ⟨(some 5), .mov, [.tmp 0], none⟩,
 ⟨(some 6), .len, [.tmp 5], none⟩,
 ⟨(some 7), .cmp .lss, [.tmp 4, .tmp 6], none⟩] false)
 (.cond (.tmp 7)
 .skip
 (.exit 0)))
 (.seq (.block 1
 (.seq (.ops [
 ⟨(some 10), .mov, [.tmp 0], none⟩,
 ⟨(some 11), .mov, [.tmp 3], none⟩,
 ⟨(some 12), .idx 2, [.tmp 10, .tmp 11], none⟩,
 ⟨(some 13), .faddr 0, [.tmp 12], none⟩,
 ⟨(some 14), .load 1 false, [.tmp 13], none⟩,
 ⟨(some 15), .cmp .lss, [.tmp 14, .const (.int .i64 1)], none⟩,
 ⟨(some 16), .mov, [.tmp 15], none⟩,
 ⟨(some 17), .mov, [.tmp 0], (some (16, false))⟩,
 ⟨(some 18), .mov, [.tmp 3], (some (16, false))⟩,
 ⟨(some 19), .idx 2, [.tmp 17, .tmp 18], (some (16, false))⟩,
 ⟨(some 20), .faddr 0, [.tmp 19], (some (16, false))⟩,
 ⟨(some 21), .load 1 false, [.tmp 20], (some (16, false))⟩,
 ⟨(some 22), .cmp .gtr, [.tmp 21, .const (.int .i64 8)], (some (16, false))⟩,
 ⟨(some 23), .pick, [.tmp 16, .const (.bool true), .tmp 22], none⟩,
 ⟨(some 24), .mov, [.tmp 23], none⟩,
 ⟨(some 25), .mov, [.tmp 0], (some (24, false))⟩,
 ⟨(some 26), .mov, [.tmp 3], (some (24, false))⟩,
 ⟨(some 27), .idx 2, [.tmp 25, .tmp 26], (some (24, false))⟩,
 ⟨(some 28), .faddr 1, [.tmp 27], (some (24, false))⟩,
 ⟨(some 29), .load 1 false, [.tmp 28], (some (24, false))⟩,
 ⟨(some 30), .cmp .lss, [.tmp 29, .const (.int .i64 0)], (some (24, false))⟩,
 ⟨(some 31), .pick, [.tmp 24, .const (.bool true), .tmp 30], none⟩,
 ⟨(some 32), .mov, [.tmp 31], none⟩,
 ⟨(some 33), .mov, [.tmp 0], (some (32, false))⟩,
 ⟨(some 34), .mov, [.tmp 3], (some (32, false))⟩,
 ⟨(some 35), .idx 2, [.tmp 33, .tmp 34], (some (32, false))⟩,
 ⟨(some 36), .faddr 1, [.tmp 35], (some (32, false))⟩,
 ⟨(some 37), .load 1 false, [.tmp 36], (some (32, false))⟩,
 ⟨(some 38), .cmp .gtr, [.tmp 37, .const (.int .i64 137438953472)], (some (32, false))⟩,
 ⟨(some 39), .pick, [.tmp 32, .const (.bool true), .tmp 38], none⟩,
 ⟨(some 40), .mov, [.tmp 39], none⟩,
 ⟨(some 41), .mov, [.tmp 3], (some (40, false))⟩,
 ⟨(some 42), .cmp .gtr, [.tmp 41, .const (.int .i64 0)], (some (40, false))⟩,
 ⟨(some 43), .mov, [.tmp 42], (some (40, false))⟩,
 ⟨(some 44), .mov, [.tmp 0], (some (43, true))⟩,
 ⟨(some 45), .mov, [.tmp 3], (some (43, true))⟩,
 ⟨(some 46), .idx 2, [.tmp 44, .tmp 45], (some (43, true))⟩,
 ⟨(some 47), .faddr 0, [.tmp 46], (some (43, true))⟩,
 ⟨(some 48), .load 1 false, [.tmp 47], (some (43, true))⟩,
 ⟨(some 49), .mov, [.tmp 0], (some (43, true))⟩,
 ⟨(some 50), .mov, [.tmp 3], (some (43, true))⟩,
 ⟨(some 51), .bin .sub .i64 false, [.tmp 50, .const (.int .i64 1)], (some (43, true))⟩,
 ⟨(some 52), .idx 2, [.tmp 49, .tmp 51], (some (43, true))⟩,
 ⟨(some 53), .faddr 0, [.tmp 52], (some (43, true))⟩,
 ⟨(some 54), .load 1 false, [.tmp 53], (some (43, true))⟩,
 ⟨(some 55), .cmp .leq, [.tmp 48, .tmp 54], (some (43, true))⟩,
 ⟨(some 56), .pick, [.tmp 43, .tmp 55, .const (.bool false)], (some (40, false))⟩,
 ⟨(some 57), .pick, [.tmp 40, .const (.bool true), .tmp 56], none⟩] true)
 (.cond (.tmp 57)
 (.seq (.ops [
 ⟨(some 2), .mov, [.const (.bool false)], none⟩] false)
 .ret)
 .skip)))
 (.ops [
 ⟨(some 8), .mov, [.tmp 3], none⟩,
 ⟨(some 9), .bin .add .i64 false, [.tmp 8, .const (.int .i64 1)], none⟩,
 ⟨(some 3), .mov, [.tmp 9], none⟩] false))))))
 (.seq (.ops [
 ⟨(some 2), .mov, [.const (.bool true)], none⟩] false)
 .ret)))⟩
theorem raccLow : lowF Tryz.prog {} Tryz.f71 = some raccIr := by kernel_rfl
def raccS : Spec := spec (List Share) (fun l => [L 2 (l.map encS)]) (fun l => l.length ≤ 9223372036854775807) (fun l => B (accB l))
theorem raccV : fnV Tryz.prog raccIr raccS := by
  intro (l : List Share) hx
  replace hx : l.length ≤ 9223372036854775807 := hx
  have hl : (l.map encS).length = l.length := List.length_map ..
  show vc _ _ _ _ ⟨argEnv 0 [L 2 (l.map encS)], [], 0⟩
  conv => whnf
  refine ⟨Nat, fun xq => ⟨[(0, L 2 (l.map encS)), (3, I xq)], [], 0⟩, fun xq => xq ≤ l.length ∧ fe (accE l) xq = 0, fun xq => l.length - xq, ⟨0, ?_, [], ⟨⟨rfl, rfl⟩, ⟨⟨rfl, rfl⟩, trivial⟩⟩, trivial, rfl, rfl, rfl⟩, ?_⟩
  · (try dsimp only); exact ⟨Nat.zero_le _, rfl⟩
  rintro k hk
  obtain ⟨hk, h0⟩ : k ≤ l.length ∧ fe (accE l) k = 0 := hk
  (try dsimp only)
  by_cases hkl : k < l.length
  · obtain ⟨x, hx⟩ := getElem_some hkl
    have hE : accE l k = if ¬ accP x then 1 else if 0 < k ∧ x.o ≤ (at_ l share0 (k - 1)).o then 1 else 0 := by unfold accE; rw [at_of hx]
    have hp : accP x = ((1 ≤ x.o ∧ x.o ≤ 8) ∧ 0 ≤ x.a ∧ x.a ≤ 137438953472) := rfl
    by_cases hb : accP x
    · rw [if_neg (Decidable.not_not.2 hb)] at hE
      rw [hp] at hb
      by_cases hk0 : k = 0
      · subst hk0
        repeat' ((conv => whnf); first | (refine ⟨fun h => ?_, fun h => ?_⟩ <;> try (exfalso; first | omega | exact absurd h (by decide) | exact h rfl)) | (refine ⟨by omega, fun r hrr => ?_⟩; first | ((have hre : r = encS x := by (first | exact get_row hrr hx | fail)); subst hre)) | (refine ⟨_ + 1, ⟨?_, by (try dsimp only); omega⟩, [], ⟨⟨rfl, rfl⟩, ⟨⟨rfl, rfl⟩, trivial⟩⟩, trivial, rfl, rfl, rfl⟩; (try dsimp only); exact ⟨by omega, fe_go h0 (hE.trans (if_neg (by omega)))⟩) | refine ⟨⟨by omega, by omega⟩, ?_⟩ | fail)
      · obtain ⟨y, hy⟩ := getElem_some (show k - 1 < l.length by omega)
        rw [at_of hy] at hE
        by_cases hle : x.o ≤ y.o
        · repeat' ((conv => whnf); first | (refine ⟨fun h => ?_, fun h => ?_⟩ <;> try (exfalso; first | omega | exact absurd h (by decide) | exact h rfl)) | (refine ⟨by omega, fun r hrr => ?_⟩; first | ((have hre : r = encS x := by (first | exact get_row hrr hx | fail)); subst hre) | ((have hre : r = encS y := by (first | exact get_rowi (j := k - 1) hrr (by omega) hy | fail)); subst hre)) | refine ⟨⟨by omega, by omega⟩, ?_⟩ | fail | fail)
          all_goals (refine ⟨[], rfl, trivial, congrArg CV.bool ?_⟩; exact (acc_no hkl h0 (hE.trans (if_pos ⟨by omega, hle⟩))).symm)
        · repeat' ((conv => whnf); first | (refine ⟨fun h => ?_, fun h => ?_⟩ <;> try (exfalso; first | omega | exact absurd h (by decide) | exact h rfl)) | (refine ⟨by omega, fun r hrr => ?_⟩; first | ((have hre : r = encS x := by (first | exact get_row hrr hx | fail)); subst hre) | ((have hre : r = encS y := by (first | exact get_rowi (j := k - 1) hrr (by omega) hy | fail)); subst hre)) | (refine ⟨k + 1, ⟨?_, by (try dsimp only); omega⟩, [], ⟨⟨rfl, rfl⟩, ⟨⟨rfl, rfl⟩, trivial⟩⟩, trivial, rfl, rfl, rfl⟩; (try dsimp only); exact ⟨by omega, fe_go h0 (hE.trans (if_neg (by omega)))⟩) | refine ⟨⟨by omega, by omega⟩, ?_⟩ | fail)
    · have hE1 := hE.trans (if_pos hb)
      rw [hp] at hb
      repeat' ((conv => whnf); first | (refine ⟨fun h => ?_, fun h => ?_⟩ <;> try (exfalso; first | omega | exact absurd h (by decide) | exact h rfl)) | (refine ⟨by omega, fun r hrr => ?_⟩; first | ((have hre : r = encS x := by (first | exact get_row hrr hx | fail)); subst hre)) | fail | fail)
      all_goals (refine ⟨[], rfl, trivial, congrArg CV.bool ?_⟩; exact (acc_no hkl h0 hE1).symm)
  · have hkn : k = l.length := by omega
    subst hkn
    repeat' ((conv => whnf); first | (refine ⟨fun h => ?_, fun h => ?_⟩ <;> try (exfalso; first | omega | exact absurd h (by decide) | exact h rfl)) | fail | fail)
    all_goals (refine ⟨[], rfl, trivial, congrArg CV.bool ?_⟩; exact (acc_yes h0).symm)
theorem racc_h : Holds Tryz.prog 71 raccS := holds_of mix Tryz.func71 raccLow (fun _ => rfl) raccV

/-! skiarea/rides.isID -/
def isIDIr : IFn := ⟨9, [.tmp 2],
 (.seq (.ops [
 ⟨(some 2), .mov, [.const (.bool false)], none⟩] false)
 (.seq (.ops [
 ⟨(some 3), .mov, [.tmp 0], none⟩,
 ⟨(some 4), .cmp .geq, [.tmp 3, .const (.int .i64 1)], none⟩,
 ⟨(some 5), .mov, [.tmp 4], none⟩,
 ⟨(some 6), .mov, [.tmp 0], (some (5, true))⟩,
 ⟨(some 7), .cmp .leq, [.tmp 6, .const (.int .i64 9999)], (some (5, true))⟩,
 ⟨(some 8), .pick, [.tmp 5, .tmp 7, .const (.bool false)], none⟩,
 ⟨(some 2), .mov, [.tmp 8], none⟩] false)
 .ret))⟩
theorem isIDLow : lowF Tryz.prog {} Tryz.f122 = some isIDIr := by kernel_rfl
def isIDS : Spec := spec Int (fun n => [I n]) (fun _ => True) (fun n => B (decide (idP n)))
theorem isIDV : fnV Tryz.prog isIDIr isIDS := by
  intro (n : Int) _
  show vc _ _ _ _ ⟨argEnv 0 [I n], [], 0⟩
  repeat' ((conv => whnf); first | (refine ⟨fun h => ?_, fun h => ?_⟩ <;> try (exfalso; first | omega | exact absurd h (by decide) | exact h rfl)) | refine ⟨[], rfl, trivial, congrArg CV.bool ?_⟩ | fail)
  all_goals first | exact (decide_eq_true (show 1 ≤ n ∧ n ≤ 9999 by omega)).symm | exact (decide_eq_false (show ¬ (1 ≤ n ∧ n ≤ 9999) by omega)).symm
theorem isID_h : Holds Tryz.prog 122 isIDS := holds_of mix Tryz.func122 isIDLow (fun _ => rfl) isIDV

/-! skiarea/rides.inRange -/
def inrngIr : IFn := ⟨51, [.tmp 2],
 (.seq (.ops [
 ⟨(some 1), .box, [.tmp 0], none⟩,
 ⟨(some 2), .mov, [.const (.bool false)], none⟩] false)
 (.seq (.seq (.ops [
 ⟨(some 3), .faddr 0, [.tmp 1], none⟩,
 ⟨(some 4), .load 1 false, [.tmp 3], none⟩,
 ⟨(some 5), .call 122, [.tmp 4], none⟩,
 ⟨(some 6), .not, [.tmp 5], none⟩,
 ⟨(some 7), .mov, [.tmp 6], none⟩,
 ⟨(some 8), .faddr 2, [.tmp 1], (some (7, false))⟩,
 ⟨(some 9), .load 1 false, [.tmp 8], (some (7, false))⟩,
 ⟨(some 10), .call 122, [.tmp 9], (some (7, false))⟩,
 ⟨(some 11), .not, [.tmp 10], (some (7, false))⟩,
 ⟨(some 12), .pick, [.tmp 7, .const (.bool true), .tmp 11], none⟩,
 ⟨(some 13), .mov, [.tmp 12], none⟩,
 ⟨(some 14), .faddr 4, [.tmp 1], (some (13, false))⟩,
 ⟨(some 15), .load 1 false, [.tmp 14], (some (13, false))⟩,
 ⟨(some 16), .call 122, [.tmp 15], (some (13, false))⟩,
 ⟨(some 17), .not, [.tmp 16], (some (13, false))⟩,
 ⟨(some 18), .pick, [.tmp 13, .const (.bool true), .tmp 17], none⟩,
 ⟨(some 19), .mov, [.tmp 18], none⟩,
 ⟨(some 20), .faddr 5, [.tmp 1], (some (19, false))⟩,
 ⟨(some 21), .load 1 false, [.tmp 20], (some (19, false))⟩,
 ⟨(some 22), .call 122, [.tmp 21], (some (19, false))⟩,
 ⟨(some 23), .not, [.tmp 22], (some (19, false))⟩,
 ⟨(some 24), .pick, [.tmp 19, .const (.bool true), .tmp 23], none⟩] false)
 (.cond (.tmp 24)
 (.seq (.ops [
 ⟨(some 2), .mov, [.const (.bool false)], none⟩] false)
 .ret)
 .skip))
 (.seq (.seq (.ops [
 ⟨(some 25), .faddr 1, [.tmp 1], none⟩,
 ⟨(some 26), .load 1 false, [.tmp 25], none⟩,
 ⟨(some 27), .cmp .lss, [.tmp 26, .const (.int .i64 1)], none⟩,
 ⟨(some 28), .mov, [.tmp 27], none⟩,
 ⟨(some 29), .faddr 1, [.tmp 1], (some (28, false))⟩,
 ⟨(some 30), .load 1 false, [.tmp 29], (some (28, false))⟩,
 ⟨(some 31), .cmp .gtr, [.tmp 30, .const (.int .i64 1000000)], (some (28, false))⟩,
 ⟨(some 32), .pick, [.tmp 28, .const (.bool true), .tmp 31], none⟩,
 ⟨(some 33), .mov, [.tmp 32], none⟩,
 ⟨(some 34), .faddr 3, [.tmp 1], (some (33, false))⟩,
 ⟨(some 35), .load 1 false, [.tmp 34], (some (33, false))⟩,
 ⟨(some 36), .cmp .lss, [.tmp 35, .const (.int .i64 1)], (some (33, false))⟩,
 ⟨(some 37), .pick, [.tmp 33, .const (.bool true), .tmp 36], none⟩,
 ⟨(some 38), .mov, [.tmp 37], none⟩,
 ⟨(some 39), .faddr 3, [.tmp 1], (some (38, false))⟩,
 ⟨(some 40), .load 1 false, [.tmp 39], (some (38, false))⟩,
 ⟨(some 41), .cmp .gtr, [.tmp 40, .const (.int .i64 1000000)], (some (38, false))⟩,
 ⟨(some 42), .pick, [.tmp 38, .const (.bool true), .tmp 41], none⟩] false)
 (.cond (.tmp 42)
 (.seq (.ops [
 ⟨(some 2), .mov, [.const (.bool false)], none⟩] false)
 .ret)
 .skip))
 (.seq (.ops [
 ⟨(some 43), .faddr 6, [.tmp 1], none⟩,
 ⟨(some 44), .load 1 false, [.tmp 43], none⟩,
 ⟨(some 45), .cmp .geq, [.tmp 44, .const (.int .i64 0)], none⟩,
 ⟨(some 46), .mov, [.tmp 45], none⟩,
 ⟨(some 47), .faddr 6, [.tmp 1], (some (46, true))⟩,
 ⟨(some 48), .load 1 false, [.tmp 47], (some (46, true))⟩,
 ⟨(some 49), .cmp .leq, [.tmp 48, .const (.int .i64 20000000)], (some (46, true))⟩,
 ⟨(some 50), .pick, [.tmp 46, .tmp 49, .const (.bool false)], none⟩,
 ⟨(some 2), .mov, [.tmp 50], none⟩] false)
 .ret))))⟩
theorem inrngLow : lowF Tryz.prog {} Tryz.f101 = some inrngIr := by kernel_rfl
def inrngS : Spec := spec Ride (fun x => [aD x]) (fun _ => True) (fun x => B (decide (rideP x)))
theorem inrngV : fnV Tryz.prog inrngIr inrngS := by
  intro (x : Ride) _
  show vc _ _ _ _ ⟨argEnv 0 [aD x], [], 0⟩
  have hp : rideP x = ((1 ≤ x.gate ∧ x.gate ≤ 9999) ∧ (1 ≤ x.serial ∧ x.serial ≤ 9999) ∧ (1 ≤ x.product ∧ x.product ≤ 9999) ∧ (1 ≤ x.lift ∧ x.lift ≤ 9999) ∧ (1 ≤ x.seq ∧ x.seq ≤ 1000000) ∧ (1 ≤ x.counter ∧ x.counter ≤ 1000000) ∧ 0 ≤ x.time ∧ x.time ≤ 20000000) := rfl
  cases d0 : decide (idP x.gate) with
  | false =>
    repeat' ((conv => whnf); first | (refine ⟨fun h => ?_, fun h => ?_⟩ <;> try (exfalso; first | omega | exact absurd h (by decide) | exact h rfl)) | (refine ⟨_, isID_h, x.gate, trivial, leVs_of_eq rfl, .inl rfl, rfl, ?_⟩; show norm (B (decide (idP x.gate))) _; rw [d0]) | fail | fail)
    all_goals (refine ⟨[], rfl, trivial, congrArg CV.bool ?_⟩; exact (decide_eq_false fun h : rideP x => of_decide_eq_false d0 h.1).symm)
  | true =>
    cases d1 : decide (idP x.serial) with
    | false =>
      repeat' ((conv => whnf); first | (refine ⟨fun h => ?_, fun h => ?_⟩ <;> try (exfalso; first | omega | exact absurd h (by decide) | exact h rfl)) | (refine ⟨_, isID_h, x.gate, trivial, leVs_of_eq rfl, .inl rfl, rfl, ?_⟩; show norm (B (decide (idP x.gate))) _; rw [d0]) | (refine ⟨_, isID_h, x.serial, trivial, leVs_of_eq rfl, .inl rfl, rfl, ?_⟩; show norm (B (decide (idP x.serial))) _; rw [d1]) | fail | fail)
      all_goals (refine ⟨[], rfl, trivial, congrArg CV.bool ?_⟩; exact (decide_eq_false fun h : rideP x => of_decide_eq_false d1 h.2.1).symm)
    | true =>
      cases d2 : decide (idP x.product) with
      | false =>
        repeat' ((conv => whnf); first | (refine ⟨fun h => ?_, fun h => ?_⟩ <;> try (exfalso; first | omega | exact absurd h (by decide) | exact h rfl)) | (refine ⟨_, isID_h, x.gate, trivial, leVs_of_eq rfl, .inl rfl, rfl, ?_⟩; show norm (B (decide (idP x.gate))) _; rw [d0]) | (refine ⟨_, isID_h, x.serial, trivial, leVs_of_eq rfl, .inl rfl, rfl, ?_⟩; show norm (B (decide (idP x.serial))) _; rw [d1]) | (refine ⟨_, isID_h, x.product, trivial, leVs_of_eq rfl, .inl rfl, rfl, ?_⟩; show norm (B (decide (idP x.product))) _; rw [d2]) | fail | fail)
        all_goals (refine ⟨[], rfl, trivial, congrArg CV.bool ?_⟩; exact (decide_eq_false fun h : rideP x => of_decide_eq_false d2 h.2.2.1).symm)
      | true =>
        cases d3 : decide (idP x.lift) with
        | false =>
          repeat' ((conv => whnf); first | (refine ⟨fun h => ?_, fun h => ?_⟩ <;> try (exfalso; first | omega | exact absurd h (by decide) | exact h rfl)) | (refine ⟨_, isID_h, x.gate, trivial, leVs_of_eq rfl, .inl rfl, rfl, ?_⟩; show norm (B (decide (idP x.gate))) _; rw [d0]) | (refine ⟨_, isID_h, x.serial, trivial, leVs_of_eq rfl, .inl rfl, rfl, ?_⟩; show norm (B (decide (idP x.serial))) _; rw [d1]) | (refine ⟨_, isID_h, x.product, trivial, leVs_of_eq rfl, .inl rfl, rfl, ?_⟩; show norm (B (decide (idP x.product))) _; rw [d2]) | (refine ⟨_, isID_h, x.lift, trivial, leVs_of_eq rfl, .inl rfl, rfl, ?_⟩; show norm (B (decide (idP x.lift))) _; rw [d3]) | fail | fail)
          all_goals (refine ⟨[], rfl, trivial, congrArg CV.bool ?_⟩; exact (decide_eq_false fun h : rideP x => of_decide_eq_false d3 h.2.2.2.1).symm)
        | true =>
          have q0 : 1 ≤ x.gate ∧ x.gate ≤ 9999 := of_decide_eq_true d0
          have q1 : 1 ≤ x.serial ∧ x.serial ≤ 9999 := of_decide_eq_true d1
          have q2 : 1 ≤ x.product ∧ x.product ≤ 9999 := of_decide_eq_true d2
          have q3 : 1 ≤ x.lift ∧ x.lift ≤ 9999 := of_decide_eq_true d3
          repeat' ((conv => whnf); first | (refine ⟨fun h => ?_, fun h => ?_⟩ <;> try (exfalso; first | omega | exact absurd h (by decide) | exact h rfl)) | (refine ⟨_, isID_h, x.gate, trivial, leVs_of_eq rfl, .inl rfl, rfl, ?_⟩; show norm (B (decide (idP x.gate))) _; rw [d0]) | (refine ⟨_, isID_h, x.serial, trivial, leVs_of_eq rfl, .inl rfl, rfl, ?_⟩; show norm (B (decide (idP x.serial))) _; rw [d1]) | (refine ⟨_, isID_h, x.product, trivial, leVs_of_eq rfl, .inl rfl, rfl, ?_⟩; show norm (B (decide (idP x.product))) _; rw [d2]) | (refine ⟨_, isID_h, x.lift, trivial, leVs_of_eq rfl, .inl rfl, rfl, ?_⟩; show norm (B (decide (idP x.lift))) _; rw [d3]) | refine ⟨[], rfl, trivial, congrArg CV.bool ?_⟩ | fail)
          all_goals first | exact (decide_eq_true (by rw [hp]; omega)).symm | exact (decide_eq_false (by rw [hp]; omega)).symm
theorem inrng_h : Holds Tryz.prog 101 inrngS := holds_of mix Tryz.func101 inrngLow (fun _ => rfl) inrngV

/-! skiarea/skiarearef31.ranges -/
def rrangesIr : IFn := ⟨71, [.tmp 2],
 (.seq (.ops [
 ⟨(some 1), .box, [.tmp 0], none⟩,
 ⟨(some 2), .mov, [.const (.bool false)], none⟩] false)
 (.seq (.ops [
 ⟨(some 3), .faddr 0, [.tmp 1], none⟩,
 ⟨(some 4), .load 1 false, [.tmp 3], none⟩,
 ⟨(some 5), .cmp .geq, [.tmp 4, .const (.int .i64 1)], none⟩,
 ⟨(some 6), .mov, [.tmp 5], none⟩,
 ⟨(some 7), .faddr 0, [.tmp 1], (some (6, true))⟩,
 ⟨(some 8), .load 1 false, [.tmp 7], (some (6, true))⟩,
 ⟨(some 9), .cmp .leq, [.tmp 8, .const (.int .i64 9999)], (some (6, true))⟩,
 ⟨(some 10), .pick, [.tmp 6, .tmp 9, .const (.bool false)], none⟩,
 ⟨(some 11), .mov, [.tmp 10], none⟩,
 ⟨(some 12), .faddr 2, [.tmp 1], (some (11, true))⟩,
 ⟨(some 13), .load 1 false, [.tmp 12], (some (11, true))⟩,
 ⟨(some 14), .cmp .geq, [.tmp 13, .const (.int .i64 1)], (some (11, true))⟩,
 ⟨(some 15), .pick, [.tmp 11, .tmp 14, .const (.bool false)], none⟩,
 ⟨(some 16), .mov, [.tmp 15], none⟩,
 ⟨(some 17), .faddr 2, [.tmp 1], (some (16, true))⟩,
 ⟨(some 18), .load 1 false, [.tmp 17], (some (16, true))⟩,
 ⟨(some 19), .cmp .leq, [.tmp 18, .const (.int .i64 9999)], (some (16, true))⟩,
 ⟨(some 20), .pick, [.tmp 16, .tmp 19, .const (.bool false)], none⟩,
 ⟨(some 21), .mov, [.tmp 20], none⟩,
 ⟨(some 22), .faddr 4, [.tmp 1], (some (21, true))⟩,
 ⟨(some 23), .load 1 false, [.tmp 22], (some (21, true))⟩,
 ⟨(some 24), .cmp .geq, [.tmp 23, .const (.int .i64 1)], (some (21, true))⟩,
 ⟨(some 25), .pick, [.tmp 21, .tmp 24, .const (.bool false)], none⟩,
 ⟨(some 26), .mov, [.tmp 25], none⟩,
 ⟨(some 27), .faddr 4, [.tmp 1], (some (26, true))⟩,
 ⟨(some 28), .load 1 false, [.tmp 27], (some (26, true))⟩,
 ⟨(some 29), .cmp .leq, [.tmp 28, .const (.int .i64 9999)], (some (26, true))⟩,
 ⟨(some 30), .pick, [.tmp 26, .tmp 29, .const (.bool false)], none⟩,
 ⟨(some 31), .mov, [.tmp 30], none⟩,
 ⟨(some 32), .faddr 5, [.tmp 1], (some (31, true))⟩,
 ⟨(some 33), .load 1 false, [.tmp 32], (some (31, true))⟩,
 ⟨(some 34), .cmp .geq, [.tmp 33, .const (.int .i64 1)], (some (31, true))⟩,
 ⟨(some 35), .pick, [.tmp 31, .tmp 34, .const (.bool false)], none⟩,
 ⟨(some 36), .mov, [.tmp 35], none⟩,
 ⟨(some 37), .faddr 5, [.tmp 1], (some (36, true))⟩,
 ⟨(some 38), .load 1 false, [.tmp 37], (some (36, true))⟩,
 ⟨(some 39), .cmp .leq, [.tmp 38, .const (.int .i64 9999)], (some (36, true))⟩,
 ⟨(some 40), .pick, [.tmp 36, .tmp 39, .const (.bool false)], none⟩,
 ⟨(some 41), .mov, [.tmp 40], none⟩,
 ⟨(some 42), .faddr 1, [.tmp 1], (some (41, true))⟩,
 ⟨(some 43), .load 1 false, [.tmp 42], (some (41, true))⟩,
 ⟨(some 44), .cmp .geq, [.tmp 43, .const (.int .i64 1)], (some (41, true))⟩,
 ⟨(some 45), .pick, [.tmp 41, .tmp 44, .const (.bool false)], none⟩,
 ⟨(some 46), .mov, [.tmp 45], none⟩,
 ⟨(some 47), .faddr 1, [.tmp 1], (some (46, true))⟩,
 ⟨(some 48), .load 1 false, [.tmp 47], (some (46, true))⟩,
 ⟨(some 49), .cmp .leq, [.tmp 48, .const (.int .i64 1000000)], (some (46, true))⟩,
 ⟨(some 50), .pick, [.tmp 46, .tmp 49, .const (.bool false)], none⟩,
 ⟨(some 51), .mov, [.tmp 50], none⟩,
 ⟨(some 52), .faddr 3, [.tmp 1], (some (51, true))⟩,
 ⟨(some 53), .load 1 false, [.tmp 52], (some (51, true))⟩,
 ⟨(some 54), .cmp .geq, [.tmp 53, .const (.int .i64 1)], (some (51, true))⟩,
 ⟨(some 55), .pick, [.tmp 51, .tmp 54, .const (.bool false)], none⟩,
 ⟨(some 56), .mov, [.tmp 55], none⟩,
 ⟨(some 57), .faddr 3, [.tmp 1], (some (56, true))⟩,
 ⟨(some 58), .load 1 false, [.tmp 57], (some (56, true))⟩,
 ⟨(some 59), .cmp .leq, [.tmp 58, .const (.int .i64 1000000)], (some (56, true))⟩,
 ⟨(some 60), .pick, [.tmp 56, .tmp 59, .const (.bool false)], none⟩,
 ⟨(some 61), .mov, [.tmp 60], none⟩,
 ⟨(some 62), .faddr 6, [.tmp 1], (some (61, true))⟩,
 ⟨(some 63), .load 1 false, [.tmp 62], (some (61, true))⟩,
 ⟨(some 64), .cmp .geq, [.tmp 63, .const (.int .i64 0)], (some (61, true))⟩,
 ⟨(some 65), .pick, [.tmp 61, .tmp 64, .const (.bool false)], none⟩,
 ⟨(some 66), .mov, [.tmp 65], none⟩,
 ⟨(some 67), .faddr 6, [.tmp 1], (some (66, true))⟩,
 ⟨(some 68), .load 1 false, [.tmp 67], (some (66, true))⟩,
 ⟨(some 69), .cmp .leq, [.tmp 68, .const (.int .i64 20000000)], (some (66, true))⟩,
 ⟨(some 70), .pick, [.tmp 66, .tmp 69, .const (.bool false)], none⟩,
 ⟨(some 2), .mov, [.tmp 70], none⟩] false)
 .ret))⟩
theorem rrangesLow : lowF Tryz.prog {} Tryz.f99 = some rrangesIr := by kernel_rfl
def rrangesS : Spec := spec Ride (fun x => [aD x]) (fun _ => True) (fun x => B (decide (rideP x)))
theorem rrangesV : fnV Tryz.prog rrangesIr rrangesS := by
  intro (x : Ride) _
  show vc _ _ _ _ ⟨argEnv 0 [aD x], [], 0⟩
  have hp : rideP x = ((1 ≤ x.gate ∧ x.gate ≤ 9999) ∧ (1 ≤ x.serial ∧ x.serial ≤ 9999) ∧ (1 ≤ x.product ∧ x.product ≤ 9999) ∧ (1 ≤ x.lift ∧ x.lift ≤ 9999) ∧ (1 ≤ x.seq ∧ x.seq ≤ 1000000) ∧ (1 ≤ x.counter ∧ x.counter ≤ 1000000) ∧ 0 ≤ x.time ∧ x.time ≤ 20000000) := rfl
  repeat' ((conv => whnf); first | (refine ⟨fun h => ?_, fun h => ?_⟩ <;> try (exfalso; first | omega | exact absurd h (by decide) | exact h rfl)) | refine ⟨[], rfl, trivial, congrArg CV.bool ?_⟩ | fail)
  all_goals first | exact (decide_eq_true (by rw [hp]; omega)).symm | exact (decide_eq_false (by rw [hp]; omega)).symm
theorem rranges_h : Holds Tryz.prog 99 rrangesS := holds_of mix Tryz.func99 rrangesLow (fun _ => rfl) rrangesV

/-! skiarea/rides.Right -/
def rroneIr : IFn := ⟨31, [.tmp 2],
 (.seq (.ops [
 ⟨(some 2), .mov, [.const (.int .i64 0)], none⟩] false)
 (.seq (.seq (.ops [
 ⟨(some 5), .mov, [.tmp 0], none⟩,
 ⟨(some 6), .len, [.tmp 5], none⟩,
 ⟨(some 7), .cmp .gtr, [.tmp 6, .const (.int .i64 2000)], none⟩] false)
 (.cond (.tmp 7)
 (.seq (.ops [
 ⟨(some 2), .mov, [.const (.int .i64 4)], none⟩] false)
 .ret)
 .skip))
 (.seq (.seq (.ops [
 ⟨(some 8), .mov, [.tmp 0], none⟩,
 ⟨(some 9), .len, [.tmp 8], none⟩,
 ⟨(some 10), .mov, [.const (.int .i64 0)], none⟩] false)
 (.block 0
 (.loop
 (.seq (.ops [
 ⟨(some 11), .cmp .lss, [.tmp 10, .tmp 9], none⟩] false)
 (.seq (.cond (.tmp 11)
 .skip
 (.exit 0))
 (.seq (.block 1
 (.seq (.ops [
 ⟨(some 12), .mov, [.tmp 10], none⟩,
 ⟨(some 13), .idx 7, [.tmp 8, .tmp 10], none⟩,
 ⟨(some 14), .load 7 true, [.tmp 13], none⟩,
 ⟨(some 4), .alloc [.int .i64 0, .int .i64 0, .int .i64 0, .int .i64 0, .int .i64 0, .int .i64 0, .int .i64 0], [], none⟩,
 ⟨(some 3), .mov, [.tmp 12], none⟩,
 ⟨none, .store 7, [.tmp 4, .tmp 14], none⟩] false)
 (.seq (.seq (.ops [
 ⟨(some 15), .load 7 true, [.tmp 4], none⟩,
 ⟨(some 16), .call 101, [.tmp 15], none⟩,
 ⟨(some 17), .not, [.tmp 16], none⟩] false)
 (.cond (.tmp 17)
 (.seq (.ops [
 ⟨(some 2), .mov, [.const (.int .i64 2)], none⟩] false)
 .ret)
 .skip))
 (.seq (.ops [
 ⟨(some 18), .mov, [.tmp 3], none⟩,
 ⟨(some 19), .cmp .gtr, [.tmp 18, .const (.int .i64 0)], none⟩,
 ⟨(some 20), .mov, [.tmp 19], none⟩,
 ⟨(some 21), .mov, [.tmp 0], (some (20, true))⟩,
 ⟨(some 22), .mov, [.tmp 3], (some (20, true))⟩,
 ⟨(some 23), .bin .sub .i64 false, [.tmp 22, .const (.int .i64 1)], (some (20, true))⟩,
 ⟨(some 24), .idx 7, [.tmp 21, .tmp 23], (some (20, true))⟩,
 ⟨(some 25), .load 7 true, [.tmp 24], (some (20, true))⟩,
 ⟨(some 26), .load 7 true, [.tmp 4], (some (20, true))⟩,
 ⟨(some 27), .call 102, [.tmp 25, .tmp 26], (some (20, true))⟩,
 ⟨(some 28), .cmp .geq, [.tmp 27, .const (.int .i64 0)], (some (20, true))⟩,
 ⟨(some 29), .pick, [.tmp 20, .tmp 28, .const (.bool false)], none⟩] true)
 (.cond (.tmp 29)
 (.seq (.ops [
 ⟨(some 2), .mov, [.const (.int .i64 11)], none⟩] false)
 .ret)
 .skip)))))
 (.ops [
 ⟨(some 30), .bin .add .i64 false, [.tmp 10, .const (.int .i64 1)], none⟩,
 ⟨(some 10), .mov, [.tmp 30], none⟩] false)))))))
 (.seq (.ops [
 ⟨(some 2), .mov, [.const (.int .i64 0)], none⟩] false)
 .ret))))⟩
theorem rroneLow : lowF Tryz.prog {} Tryz.f84 = some rroneIr := by kernel_rfl
def rroneS : Spec := spec Ride (fun x => [L 7 ([x].map encD)]) (fun _ => True) (fun x => I (if rideP x then 0 else 2))
theorem rroneV : fnV Tryz.prog rroneIr rroneS := by
  intro (x : Ride) _
  show vc _ _ _ _ ⟨argEnv 0 [L 7 ([x].map encD)], [], 0⟩
  have hl : ([x].map encD).length = 1 := rfl
  have hx : [x][0]? = some x := rfl
  repeat' ((conv => whnf); first | (refine ⟨fun h => ?_, fun h => ?_⟩ <;> try (exfalso; first | omega | exact absurd h (by decide) | exact h rfl)) | fail | fail)
  refine ⟨Nat, fun xq => ⟨[(0, L 7 ([x].map encD)), (8, L 7 ([x].map encD)), (9, I ([x].map encD).length), (10, I xq)], [], 0⟩, fun xq => xq ≤ 1 ∧ (0 < xq → rideP x), fun xq => 1 - xq, ⟨0, ?_, [], ⟨⟨rfl, rfl⟩, ⟨⟨rfl, rfl⟩, ⟨⟨rfl, rfl⟩, ⟨⟨rfl, rfl⟩, trivial⟩⟩⟩⟩, trivial, rfl, rfl, rfl⟩, ?_⟩
  · (try dsimp only); exact ⟨by omega, fun h => absurd h (by omega)⟩
  rintro k hk
  obtain ⟨hk, h0⟩ : k ≤ 1 ∧ (0 < k → rideP x) := hk
  (try dsimp only)
  by_cases hk0 : k = 0
  · subst hk0
    cases hd : decide (rideP x) with
    | false =>
      repeat' ((conv => whnf); first | (refine ⟨fun h => ?_, fun h => ?_⟩ <;> try (exfalso; first | omega | exact absurd h (by decide) | exact h rfl)) | (refine ⟨by omega, fun r hrr => ?_⟩; first | ((have hre : r = encD x := by (first | exact get_row hrr hx | fail)); subst hre)) | (refine ⟨_, inrng_h, x, trivial, leVs_of_eq rfl, .inl rfl, rfl, ?_⟩; show norm (B (decide (rideP x))) _; rw [hd]) | fail | fail)
      all_goals (refine ⟨[], rfl, trivial, congrArg (CV.int .i64) ?_⟩; exact (if_neg (of_decide_eq_false hd)).symm)
    | true =>
      repeat' ((conv => whnf); first | (refine ⟨fun h => ?_, fun h => ?_⟩ <;> try (exfalso; first | omega | exact absurd h (by decide) | exact h rfl)) | (refine ⟨by omega, fun r hrr => ?_⟩; first | ((have hre : r = encD x := by (first | exact get_row hrr hx | fail)); subst hre)) | (refine ⟨_, inrng_h, x, trivial, leVs_of_eq rfl, .inl rfl, rfl, ?_⟩; show norm (B (decide (rideP x))) _; rw [hd]) | (refine ⟨1, ⟨?_, by (try dsimp only); omega⟩, [], ⟨⟨rfl, rfl⟩, ⟨⟨rfl, rfl⟩, ⟨⟨rfl, rfl⟩, ⟨⟨rfl, rfl⟩, trivial⟩⟩⟩⟩, trivial, rfl, rfl, rfl⟩; (try dsimp only); exact ⟨by omega, fun _ => of_decide_eq_true hd⟩) | refine ⟨⟨by omega, by omega⟩, ?_⟩ | fail)
  · repeat' ((conv => whnf); first | (refine ⟨fun h => ?_, fun h => ?_⟩ <;> try (exfalso; first | omega | exact absurd h (by decide) | exact h rfl)) | fail | fail)
    all_goals (refine ⟨[], rfl, trivial, congrArg (CV.int .i64) ?_⟩; exact (if_pos (h0 (by omega))).symm)
theorem rrone_h : Holds Tryz.prog 84 rroneS := holds_of mix Tryz.func84 rroneLow (fun _ => rfl) rroneV

/-! skiarea/skiarearef31.Right -/
def roneIr : IFn := ⟨34, [.tmp 2],
 (.seq (.ops [
 ⟨(some 2), .mov, [.const (.int .i64 0)], none⟩] false)
 (.seq (.seq (.ops [
 ⟨(some 4), .mov, [.tmp 0], none⟩,
 ⟨(some 5), .len, [.tmp 4], none⟩,
 ⟨(some 6), .cmp .gtr, [.tmp 5, .const (.int .i64 2000)], none⟩] false)
 (.cond (.tmp 6)
 (.seq (.ops [
 ⟨(some 2), .mov, [.const (.int .i64 4)], none⟩] false)
 .ret)
 .skip))
 (.seq (.seq (.ops [
 ⟨(some 3), .mov, [.const (.int .i64 0)], none⟩] false)
 (.block 0
 (.loop
 (.seq (.seq (.ops [
 ⟨(some 7), .mov, [.tmp 3], none⟩,
 ⟨(some 8), .mov, [.tmp 0], none⟩,
 ⟨(some 9), .len, [.tmp 8], none⟩,
 ⟨(some 10), .cmp .lss, [.tmp 7, .tmp 9], none⟩] false)
 (.cond (.tmp 10)
 .skip
 (.exit 0)))
 (.seq (.block 1
 (.seq (.seq (.ops [
 ⟨(some 13), .mov, [.tmp 0], none⟩,
 ⟨(some 14), .mov, [.tmp 3], none⟩,
 ⟨(some 15), .idx 7, [.tmp 13, .tmp 14], none⟩,
 ⟨(some 16), .load 7 true, [.tmp 15], none⟩,
 ⟨(some 17), .call 99, [.tmp 16], none⟩,
 ⟨(some 18), .not, [.tmp 17], none⟩] false)
 (.cond (.tmp 18)
 (.seq (.ops [
 ⟨(some 2), .mov, [.const (.int .i64 2)], none⟩] false)
 .ret)
 .skip))
 (.seq (.ops [
 ⟨(some 19), .mov, [.tmp 3], none⟩,
 ⟨(some 20), .cmp .gtr, [.tmp 19, .const (.int .i64 0)], none⟩,
 ⟨(some 21), .mov, [.tmp 20], none⟩,
 ⟨(some 22), .mov, [.tmp 0], (some (21, true))⟩,
 ⟨(some 23), .mov, [.tmp 3], (some (21, true))⟩,
 ⟨(some 24), .bin .sub .i64 false, [.tmp 23, .const (.int .i64 1)], (some (21, true))⟩,
 ⟨(some 25), .idx 7, [.tmp 22, .tmp 24], (some (21, true))⟩,
 ⟨(some 26), .load 7 true, [.tmp 25], (some (21, true))⟩,
 ⟨(some 27), .mov, [.tmp 0], (some (21, true))⟩,
 ⟨(some 28), .mov, [.tmp 3], (some (21, true))⟩,
 ⟨(some 29), .idx 7, [.tmp 27, .tmp 28], (some (21, true))⟩,
 ⟨(some 30), .load 7 true, [.tmp 29], (some (21, true))⟩,
 ⟨(some 31), .call 100, [.tmp 26, .tmp 30], (some (21, true))⟩,
 ⟨(some 32), .not, [.tmp 31], (some (21, true))⟩,
 ⟨(some 33), .pick, [.tmp 21, .tmp 32, .const (.bool false)], none⟩] true)
 (.cond (.tmp 33)
 (.seq (.ops [
 ⟨(some 2), .mov, [.const (.int .i64 11)], none⟩] false)
 .ret)
 .skip))))
 (.ops [
 ⟨(some 11), .mov, [.tmp 3], none⟩,
 ⟨(some 12), .bin .add .i64 false, [.tmp 11, .const (.int .i64 1)], none⟩,
 ⟨(some 3), .mov, [.tmp 12], none⟩] false))))))
 (.seq (.ops [
 ⟨(some 2), .mov, [.const (.int .i64 0)], none⟩] false)
 .ret))))⟩
theorem roneLow : lowF Tryz.prog {} Tryz.f80 = some roneIr := by kernel_rfl
def roneS : Spec := spec Ride (fun x => [L 7 ([x].map encD)]) (fun _ => True) (fun x => I (if rideP x then 0 else 2))
theorem roneV : fnV Tryz.prog roneIr roneS := by
  intro (x : Ride) _
  show vc _ _ _ _ ⟨argEnv 0 [L 7 ([x].map encD)], [], 0⟩
  have hl : ([x].map encD).length = 1 := rfl
  have hx : [x][0]? = some x := rfl
  repeat' ((conv => whnf); first | (refine ⟨fun h => ?_, fun h => ?_⟩ <;> try (exfalso; first | omega | exact absurd h (by decide) | exact h rfl)) | fail | fail)
  refine ⟨Nat, fun xq => ⟨[(0, L 7 ([x].map encD)), (3, I xq)], [], 0⟩, fun xq => xq ≤ 1 ∧ (0 < xq → rideP x), fun xq => 1 - xq, ⟨0, ?_, [], ⟨⟨rfl, rfl⟩, ⟨⟨rfl, rfl⟩, trivial⟩⟩, trivial, rfl, rfl, rfl⟩, ?_⟩
  · (try dsimp only); exact ⟨by omega, fun h => absurd h (by omega)⟩
  rintro k hk
  obtain ⟨hk, h0⟩ : k ≤ 1 ∧ (0 < k → rideP x) := hk
  (try dsimp only)
  by_cases hk0 : k = 0
  · subst hk0
    cases hd : decide (rideP x) with
    | false =>
      repeat' ((conv => whnf); first | (refine ⟨fun h => ?_, fun h => ?_⟩ <;> try (exfalso; first | omega | exact absurd h (by decide) | exact h rfl)) | (refine ⟨by omega, fun r hrr => ?_⟩; first | ((have hre : r = encD x := by (first | exact get_row hrr hx | fail)); subst hre)) | (refine ⟨_, rranges_h, x, trivial, leVs_of_eq rfl, .inl rfl, rfl, ?_⟩; show norm (B (decide (rideP x))) _; rw [hd]) | fail | fail)
      all_goals (refine ⟨[], rfl, trivial, congrArg (CV.int .i64) ?_⟩; exact (if_neg (of_decide_eq_false hd)).symm)
    | true =>
      repeat' ((conv => whnf); first | (refine ⟨fun h => ?_, fun h => ?_⟩ <;> try (exfalso; first | omega | exact absurd h (by decide) | exact h rfl)) | (refine ⟨by omega, fun r hrr => ?_⟩; first | ((have hre : r = encD x := by (first | exact get_row hrr hx | fail)); subst hre)) | (refine ⟨_, rranges_h, x, trivial, leVs_of_eq rfl, .inl rfl, rfl, ?_⟩; show norm (B (decide (rideP x))) _; rw [hd]) | (refine ⟨1, ⟨?_, by (try dsimp only); omega⟩, [], ⟨⟨rfl, rfl⟩, ⟨⟨rfl, rfl⟩, trivial⟩⟩, trivial, rfl, rfl, rfl⟩; (try dsimp only); exact ⟨by omega, fun _ => of_decide_eq_true hd⟩) | refine ⟨⟨by omega, by omega⟩, ?_⟩ | fail)
  · repeat' ((conv => whnf); first | (refine ⟨fun h => ?_, fun h => ?_⟩ <;> try (exfalso; first | omega | exact absurd h (by decide) | exact h rfl)) | fail | fail)
    all_goals (refine ⟨[], rfl, trivial, congrArg (CV.int .i64) ?_⟩; exact (if_pos (h0 (by omega))).symm)
theorem rone_h : Holds Tryz.prog 80 roneS := holds_of mix Tryz.func80 roneLow (fun _ => rfl) roneV

/-! skiarea/period.single -/
def singleIr : IFn := ⟨7, [.tmp 2],
 (.seq (.ops [
 ⟨(some 1), .box, [.tmp 0], none⟩,
 ⟨(some 2), .mov, [.const (.bool false)], none⟩] false)
 (.seq (.ops [
 ⟨(some 3), .load 7 true, [.tmp 1], none⟩,
 ⟨(some 4), .buildSl 37 7, [.tmp 3], none⟩,
 ⟨(some 5), .call 84, [.tmp 4], none⟩,
 ⟨(some 6), .cmp .eql, [.tmp 5, .const (.int .i64 0)], none⟩,
 ⟨(some 2), .mov, [.tmp 6], none⟩] false)
 .ret))⟩
theorem singleLow : lowF Tryz.prog {} Tryz.f53 = some singleIr := by kernel_rfl
def singleS : Spec := spec Ride (fun x => [aD x]) (fun _ => True) (fun x => B (decide (rideP x)))
theorem singleV : fnV Tryz.prog singleIr singleS := by
  intro (x : Ride) _
  show vc _ _ _ _ ⟨argEnv 0 [aD x], [], 0⟩
  by_cases hb : rideP x
  · repeat' ((conv => whnf); first | (refine ⟨fun h => ?_, fun h => ?_⟩ <;> try (exfalso; first | omega | exact absurd h (by decide) | exact h rfl)) | (refine ⟨_, rrone_h, x, trivial, leVs_of_eq rfl, .inl rfl, rfl, ?_⟩; show norm (I (if rideP x then 0 else 2)) _; rw [if_pos hb]) | fail | fail)
    all_goals (refine ⟨[], rfl, trivial, congrArg CV.bool ?_⟩; exact (decide_eq_true hb).symm)
  · repeat' ((conv => whnf); first | (refine ⟨fun h => ?_, fun h => ?_⟩ <;> try (exfalso; first | omega | exact absurd h (by decide) | exact h rfl)) | (refine ⟨_, rrone_h, x, trivial, leVs_of_eq rfl, .inl rfl, rfl, ?_⟩; show norm (I (if rideP x then 0 else 2)) _; rw [if_neg hb]) | fail | fail)
    all_goals (refine ⟨[], rfl, trivial, congrArg CV.bool ?_⟩; exact (decide_eq_false hb).symm)
theorem single_h : Holds Tryz.prog 53 singleS := holds_of mix Tryz.func53 singleLow (fun _ => rfl) singleV

/-! skiarea/skiarearef38.alone -/
def aloneIr : IFn := ⟨7, [.tmp 2],
 (.seq (.ops [
 ⟨(some 1), .box, [.tmp 0], none⟩,
 ⟨(some 2), .mov, [.const (.bool false)], none⟩] false)
 (.seq (.ops [
 ⟨(some 3), .load 7 true, [.tmp 1], none⟩,
 ⟨(some 4), .buildSl 37 7, [.tmp 3], none⟩,
 ⟨(some 5), .call 80, [.tmp 4], none⟩,
 ⟨(some 6), .cmp .eql, [.tmp 5, .const (.int .i64 0)], none⟩,
 ⟨(some 2), .mov, [.tmp 6], none⟩] false)
 .ret))⟩
theorem aloneLow : lowF Tryz.prog {} Tryz.f46 = some aloneIr := by kernel_rfl
def aloneS : Spec := spec Ride (fun x => [aD x]) (fun _ => True) (fun x => B (decide (rideP x)))
theorem aloneV : fnV Tryz.prog aloneIr aloneS := by
  intro (x : Ride) _
  show vc _ _ _ _ ⟨argEnv 0 [aD x], [], 0⟩
  by_cases hb : rideP x
  · repeat' ((conv => whnf); first | (refine ⟨fun h => ?_, fun h => ?_⟩ <;> try (exfalso; first | omega | exact absurd h (by decide) | exact h rfl)) | (refine ⟨_, rone_h, x, trivial, leVs_of_eq rfl, .inl rfl, rfl, ?_⟩; show norm (I (if rideP x then 0 else 2)) _; rw [if_pos hb]) | fail | fail)
    all_goals (refine ⟨[], rfl, trivial, congrArg CV.bool ?_⟩; exact (decide_eq_true hb).symm)
  · repeat' ((conv => whnf); first | (refine ⟨fun h => ?_, fun h => ?_⟩ <;> try (exfalso; first | omega | exact absurd h (by decide) | exact h rfl)) | (refine ⟨_, rone_h, x, trivial, leVs_of_eq rfl, .inl rfl, rfl, ?_⟩; show norm (I (if rideP x then 0 else 2)) _; rw [if_neg hb]) | fail | fail)
    all_goals (refine ⟨[], rfl, trivial, congrArg CV.bool ?_⟩; exact (decide_eq_false hb).symm)
theorem alone_h : Holds Tryz.prog 46 aloneS := holds_of mix Tryz.func46 aloneLow (fun _ => rfl) aloneV

/-! skiarea/period.end -/
def endpIr : IFn := ⟨14, [.tmp 2],
 (.seq (.ops [
 ⟨(some 2), .mov, [.const (.int .i64 0)], none⟩] false)
 (.seq (.seq (.ops [
 ⟨(some 3), .mov, [.tmp 0], none⟩,
 ⟨(some 4), .len, [.tmp 3], none⟩,
 ⟨(some 5), .cmp .eql, [.tmp 4, .const (.int .i64 0)], none⟩] false)
 (.cond (.tmp 5)
 (.seq (.ops [
 ⟨(some 2), .mov, [.const (.int .i64 0)], none⟩] false)
 .ret)
 .skip))
 (.seq (.ops [
 ⟨(some 6), .mov, [.tmp 0], none⟩,
 ⟨(some 7), .mov, [.tmp 0], none⟩,
 ⟨(some 8), .len, [.tmp 7], none⟩,
 ⟨(some 9), .bin .sub .i64 false, [.tmp 8, .const (.int .i64 1)], none⟩,
 ⟨(some 10), .idx 5, [.tmp 6, .tmp 9], none⟩,
 ⟨(some 11), .faddr 1, [.tmp 10], none⟩,
 ⟨(some 12), .faddr 1, [.tmp 11], none⟩,
 ⟨(some 13), .load 1 false, [.tmp 12], none⟩,
 ⟨(some 2), .mov, [.tmp 13], none⟩] false)
 .ret)))⟩
theorem endpLow : lowF Tryz.prog {} Tryz.f48 = some endpIr := by kernel_rfl
def endpS : Spec := spec (List Per) (fun l => [L 5 (l.map encP)]) (fun l => l.length ≤ 9223372036854775807) (fun l => I (endOf l))
theorem endpV : fnV Tryz.prog endpIr endpS := by
  intro (l : List Per) hx
  replace hx : l.length ≤ 9223372036854775807 := hx
  have hl : (l.map encP).length = l.length := List.length_map ..
  show vc _ _ _ _ ⟨argEnv 0 [L 5 (l.map encP)], [], 0⟩
  by_cases h0 : l.length = 0
  · repeat' ((conv => whnf); first | (refine ⟨fun h => ?_, fun h => ?_⟩ <;> try (exfalso; first | omega | exact absurd h (by decide) | exact h rfl)) | fail | fail)
    all_goals (refine ⟨[], rfl, trivial, congrArg (CV.int .i64) ?_⟩; exact ((show endOf l = 0 by rw [List.eq_nil_of_length_eq_zero h0]; rfl)).symm)
  · obtain ⟨x, hx⟩ := getElem_some (show l.length - 1 < l.length by omega)
    have he : endOf l = x.to := by unfold endOf; rw [List.getLast?_eq_getElem?, hx]
    repeat' ((conv => whnf); first | (refine ⟨fun h => ?_, fun h => ?_⟩ <;> try (exfalso; first | omega | exact absurd h (by decide) | exact h rfl)) | (refine ⟨by omega, fun r hrr => ?_⟩; first | ((have hre : r = encP x := by (first | exact get_rowi (j := l.length - 1) hrr (by omega) hx | fail)); subst hre)) | refine ⟨⟨by omega, by omega⟩, ?_⟩ | fail | fail)
    all_goals (refine ⟨[], rfl, trivial, congrArg (CV.int .i64) ?_⟩; exact (he).symm)
theorem endp_h : Holds Tryz.prog 48 endpS := holds_of mix Tryz.func48 endpLow (fun _ => rfl) endpV

/-! skiarea/skiarearef38.end -/
def rendIr : IFn := ⟨14, [.tmp 2],
 (.seq (.ops [
 ⟨(some 2), .mov, [.const (.int .i64 0)], none⟩] false)
 (.seq (.seq (.ops [
 ⟨(some 3), .mov, [.tmp 0], none⟩,
 ⟨(some 4), .len, [.tmp 3], none⟩,
 ⟨(some 5), .cmp .eql, [.tmp 4, .const (.int .i64 0)], none⟩] false)
 (.cond (.tmp 5)
 (.seq (.ops [
 ⟨(some 2), .mov, [.const (.int .i64 0)], none⟩] false)
 .ret)
 .skip))
 (.seq (.ops [
 ⟨(some 6), .mov, [.tmp 0], none⟩,
 ⟨(some 7), .mov, [.tmp 0], none⟩,
 ⟨(some 8), .len, [.tmp 7], none⟩,
 ⟨(some 9), .bin .sub .i64 false, [.tmp 8, .const (.int .i64 1)], none⟩,
 ⟨(some 10), .idx 5, [.tmp 6, .tmp 9], none⟩,
 ⟨(some 11), .faddr 1, [.tmp 10], none⟩,
 ⟨(some 12), .faddr 1, [.tmp 11], none⟩,
 ⟨(some 13), .load 1 false, [.tmp 12], none⟩,
 ⟨(some 2), .mov, [.tmp 13], none⟩] false)
 .ret)))⟩
theorem rendLow : lowF Tryz.prog {} Tryz.f50 = some rendIr := by kernel_rfl
def rendS : Spec := spec (List Per) (fun l => [L 5 (l.map encP)]) (fun l => l.length ≤ 9223372036854775807) (fun l => I (endOf l))
theorem rendV : fnV Tryz.prog rendIr rendS := by
  intro (l : List Per) hx
  replace hx : l.length ≤ 9223372036854775807 := hx
  have hl : (l.map encP).length = l.length := List.length_map ..
  show vc _ _ _ _ ⟨argEnv 0 [L 5 (l.map encP)], [], 0⟩
  by_cases h0 : l.length = 0
  · repeat' ((conv => whnf); first | (refine ⟨fun h => ?_, fun h => ?_⟩ <;> try (exfalso; first | omega | exact absurd h (by decide) | exact h rfl)) | fail | fail)
    all_goals (refine ⟨[], rfl, trivial, congrArg (CV.int .i64) ?_⟩; exact ((show endOf l = 0 by rw [List.eq_nil_of_length_eq_zero h0]; rfl)).symm)
  · obtain ⟨x, hx⟩ := getElem_some (show l.length - 1 < l.length by omega)
    have he : endOf l = x.to := by unfold endOf; rw [List.getLast?_eq_getElem?, hx]
    repeat' ((conv => whnf); first | (refine ⟨fun h => ?_, fun h => ?_⟩ <;> try (exfalso; first | omega | exact absurd h (by decide) | exact h rfl)) | (refine ⟨by omega, fun r hrr => ?_⟩; first | ((have hre : r = encP x := by (first | exact get_rowi (j := l.length - 1) hrr (by omega) hx | fail)); subst hre)) | refine ⟨⟨by omega, by omega⟩, ?_⟩ | fail | fail)
    all_goals (refine ⟨[], rfl, trivial, congrArg (CV.int .i64) ?_⟩; exact (he).symm)
theorem rend_h : Holds Tryz.prog 50 rendS := holds_of mix Tryz.func50 rendLow (fun _ => rfl) rendV

end Go.Proofs.YtpkhannkbafimaaGreat
