/- Incidents: the examples of the chapter hold. -/
import Derived.Test.YtoeichkblclfaaaM3
namespace Go.Proofs.Ytoeichkblclfaaa
open Go.RowKit
abbrev smp : Mp := ⟨[⟨1, 1000⟩, ⟨2, 1500⟩, ⟨3, 2000⟩], [], [⟨12, 1, 2, 1, 1, 1, 500⟩, ⟨13, 1, 3, 2, 1, 1, 700⟩], [1]⟩
abbrev i1 : Inc := ⟨7, 12, 0, 1, 0, 100⟩
abbrev i2 : Inc := ⟨8, 13, 0, 1, 0, 90⟩
theorem ev_a : reportF [] 7 12 100 = ([i1], 0) := by kernel_rfl
theorem ev_b : reportF [i1] 8 13 90 = ([i1, i2], 0) := by kernel_rfl
theorem ev_c : changeF (judgeF 2) [i1, i2] 8 120 = ([i1, ⟨8, 13, 2, 1, 0, 120⟩], 0) := by kernel_rfl
theorem ev_d : changeF (sendF [i1, i2] 3) [i1, i2] 7 150 = ([⟨7, 12, 0, 2, 3, 150⟩, i2], 0) := by kernel_rfl
theorem ev_d2 : changeF (sendF [⟨7, 12, 0, 2, 3, 150⟩, i2] 3) [⟨7, 12, 0, 2, 3, 150⟩, i2] 8 150 = ([], 15) := by kernel_rfl
theorem ev_x : changeF moveF [⟨7, 12, 0, 2, 3, 150⟩, i2] 7 160 = ([⟨7, 12, 0, 3, 3, 160⟩, i2], 0) := by kernel_rfl
theorem ev_x2 : changeF moveF [⟨7, 12, 0, 3, 3, 160⟩, i2] 7 170 = ([], 17) := by kernel_rfl
theorem ev_y : changeF (judgeF 1) [⟨7, 12, 0, 3, 3, 160⟩, i2] 7 170 = ([⟨7, 12, 1, 3, 3, 170⟩, i2], 0) := by kernel_rfl
theorem ev_z : changeF moveF [⟨7, 12, 1, 3, 3, 170⟩, i2] 7 180 = ([⟨7, 12, 1, 4, 3, 180⟩, i2], 0) := by kernel_rfl
theorem ev_w : changeF moveF [⟨7, 12, 1, 4, 3, 180⟩, i2] 7 190 = ([⟨7, 12, 1, 5, 0, 190⟩, i2], 0) := by kernel_rfl
theorem ev_v : changeF (sendF [⟨7, 12, 1, 5, 0, 190⟩, i2] 3) [⟨7, 12, 1, 5, 0, 190⟩, i2] 8 200 = ([⟨7, 12, 1, 5, 0, 190⟩, ⟨8, 13, 0, 2, 3, 200⟩], 0) := by kernel_rfl
theorem ev_r : rightI [⟨7, 12, 1, 5, 0, 190⟩, i2] = 0 := by kernel_rfl
theorem ids2 {x y : Inc} (h : x.id ≠ y.id) : IdsN [x, y] := by unfold IdsN; simpa using h
theorem ids_b : IdsN [i1, i2] := ids2 (by decide)
theorem ids_c : IdsN [i1, ⟨8, 13, 2, 1, 0, 120⟩] := ids2 (by decide)
theorem ev_ub : urgF [i1, i2] = [8, 7] := by
  unfold urgF
  have hw : waitL [i1, i2] = [i1, i2] := by kernel_rfl
  rw [← urg_uniq (ys := [i2, i1]) ids_b (by rw [hw]; exact List.Perm.swap ..) (by
    rw [List.pairwise_cons]
    refine ⟨fun y hy => ?_, List.pairwise_singleton ..⟩
    rw [List.mem_singleton] at hy; subst hy
    unfold befI; decide)]
  rfl
theorem ev_uc : urgF [i1, ⟨8, 13, 2, 1, 0, 120⟩] = [7, 8] := by
  unfold urgF
  have hw : waitL [i1, ⟨8, 13, 2, 1, 0, 120⟩] = [i1, ⟨8, 13, 2, 1, 0, 120⟩] := by kernel_rfl
  rw [← urg_uniq (ys := [i1, ⟨8, 13, 2, 1, 0, 120⟩]) ids_c (by rw [hw]) (by
    rw [List.pairwise_cons]
    refine ⟨fun y hy => ?_, List.pairwise_singleton ..⟩
    rw [List.mem_singleton] at hy; subst hy
    unfold befI; decide)]
  rfl
theorem smp_ok : MapOk smp := mapOk_of (by kernel_rfl)
theorem ev_g : fillT (greedy 2 (matN smp [1, 3] [13, 12]) 0) 2 2 = [1, 0] := by kernel_rfl
theorem ev_p : planF smp [i1, i2] [1, 3] = ([1, 0], 0) := by
  have hk : kOf [i1, i2] [1, 3] = 2 := by unfold kOf; rw [ev_ub]; rfl
  have hr : runsF [i1, i2] [1, 3] = [13, 12] := by unfold runsF; rw [hk, ev_ub]; kernel_rfl
  unfold planF
  rw [if_neg (by decide), hk, if_neg (by decide), hr, ev_g]

end Go.Proofs.Ytoeichkblclfaaa
