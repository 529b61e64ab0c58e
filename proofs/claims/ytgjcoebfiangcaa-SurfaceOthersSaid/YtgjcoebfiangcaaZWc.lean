/- The two closures of Worst. -/
import Derived.Test.YtgjcoebfiangcaaZQual
import Derived.Test.YtgjcoebfiangcaaZCmp
namespace Go.Proofs.Ytgjcoebfiangcaa.Old
open Go.RowKit

theorem cell_lt_alloc {w : World} {b o : Nat} {v : Value} {ob : Obj} (h : w.cell? ⟨b, o, none⟩ = some v) : (w.alloc ob).cell? ⟨b, o, none⟩ = some v := by
  have hb : b < w.heap.size := by
    rcases Nat.lt_or_ge b w.heap.size with h' | h'
    · exact h'
    · simp [World.cell?, Array.getElem?_eq_none h'] at h
  rw [World.cell?_alloc_lt w ob ⟨b, o, none⟩ hb]; exact h

set_option maxHeartbeats 1000000 in
theorem worst1_any (x : Surf) (t least : Int) (B C : Nat) (w : World) (hx : okS x) (ht : t ≤ 9223372036854775807) (hB : B < w.heap.size) (hC : C < w.heap.size) (hcB : w.cell? ⟨B, 0, none⟩ = some (.int .i64 t)) (hcC : w.cell? ⟨C, 0, none⟩ = some (.int .i64 least)) :
    Calls Try.prog 29 #[.agg #[.int .i64 x.run, .int .i64 x.groomed, .int .i64 x.traffic], .pointer (some ⟨B, 0, none⟩), .pointer (some ⟨C, 0, none⟩)] w fun e w' => e = .returned (.bool (decide (least ≤ quality x t))) ∧ Below w.heap.size w w' := by
  have hne : B ≠ w.heap.size := by omega
  have hne' : C ≠ w.heap.size := by omega
  have q0 := Lib.hid fun W => quality_any x t W hx ht
  clear hx
  go_enter Try.func29, Try.ntmps29
  go_wp2
  go_region_held3 (fun w' => w'.cell? ⟨w.heap.size, 0, none⟩ = some (.int .i64 x.run) ∧ w'.cell? ⟨w.heap.size, 1, none⟩ = some (.int .i64 x.groomed) ∧ w'.cell? ⟨w.heap.size, 2, none⟩ = some (.int .i64 x.traffic) ∧ w'.cell? ⟨B, 0, none⟩ = some (.int .i64 t) ∧ w'.cell? ⟨C, 0, none⟩ = some (.int .i64 least)) (go_keep)
    (first | (go_at_call 19; refine (q0.out _).mono ?_; rintro e w' ⟨rfl, rfl⟩))
  go_wp2
  go_ret
  exact ⟨rfl, Lays.below (by repeat (first | exact Lays.refl _ | apply Lays.alloc | apply Lays.drew))⟩

theorem cmpQ_eq (t : Int) (x y : Surf) : orI [cmpI (quality x t) (quality y t), cmpI x.run y.run] = cmpQ t x y := by
  unfold cmpQ cmpI orI orI orI
  by_cases h1 : quality x t < quality y t
  · simp [h1]
  · by_cases h2 : quality y t < quality x t
    · simp [h1, h2]
    · by_cases h3 : x.run < y.run
      · simp [h1, h2, h3]
      · by_cases h4 : y.run < x.run <;> simp [h1, h2, h3, h4]

set_option maxHeartbeats 1000000 in
theorem worst2_any (x y : Surf) (t : Int) (B : Nat) (w : World) (hx : okS x) (hy : okS y) (ht : t ≤ 9223372036854775807) (hB : B < w.heap.size) (hcB : w.cell? ⟨B, 0, none⟩ = some (.int .i64 t)) :
    Calls Try.prog 31 #[.agg #[.int .i64 x.run, .int .i64 x.groomed, .int .i64 x.traffic], .agg #[.int .i64 y.run, .int .i64 y.groomed, .int .i64 y.traffic], .pointer (some ⟨B, 0, none⟩)] w fun e w' => e = .returned (.int .i64 (cmpQ t x y)) ∧ Lays w w' := by
  have hne : B ≠ w.heap.size := by omega
  have hne' : B ≠ w.heap.size + 1 := by omega
  have hne2 : B ≠ w.heap.size + 1 + 1 := by omega
  have hne3 : B ≠ w.heap.size + 1 + 1 + 1 := by omega
  have hne4 : B ≠ w.heap.size + 1 + 1 + 1 + 1 := by omega
  have q0 := Lib.hid fun z W hz => quality_any z t W hz ht
  have HX := Lib.hid hx; have HY := Lib.hid hy
  clear hx hy
  go_enter Try.func31, Try.ntmps31
  go_wp2
  go_region_held3 (fun w' => w'.cell? ⟨w.heap.size, 0, none⟩ = some (.int .i64 x.run) ∧ w'.cell? ⟨w.heap.size, 1, none⟩ = some (.int .i64 x.groomed) ∧ w'.cell? ⟨w.heap.size, 2, none⟩ = some (.int .i64 x.traffic) ∧ w'.cell? ⟨w.heap.size + 1, 0, none⟩ = some (.int .i64 y.run) ∧ w'.cell? ⟨w.heap.size + 1, 1, none⟩ = some (.int .i64 y.groomed) ∧ w'.cell? ⟨w.heap.size + 1, 2, none⟩ = some (.int .i64 y.traffic) ∧ w'.cell? ⟨B, 0, none⟩ = some (.int .i64 t)) (((try dsimp only); (repeat' apply And.intro) <;> (simp only [World.cell?_drew]; (first | exact hcB | (simp; done) | (apply cell_lt_alloc; (first | exact hcB | (simp; done) | (apply cell_lt_alloc; (first | exact hcB | (simp; done) | (apply cell_lt_alloc; (first | exact hcB | (simp; done) | (apply cell_lt_alloc; (first | exact hcB | (simp; done) | (apply cell_lt_alloc; (first | exact hcB | (simp; done)))))))))))))))
    (first | (go_at_call 19; refine (q0.out _ _ (by first | exact HX.out | exact HY.out)).mono ?_; rintro e w' ⟨rfl, rfl⟩) | (go_at_call 33; refine (compare_any _ _ _).mono ?_; rintro e w' ⟨rfl, rfl⟩) | (go_at_call 32; refine (or_any [cmpI (quality x t) (quality y t), cmpI x.run y.run] _ _ (by exact Row.drew (row_lit_at encI_len _ 3 _ [cmpI (quality x t) (quality y t), cmpI x.run y.run] (by simp) (by simp)))).mono ?_; rintro e w' ⟨rfl, rfl⟩))
  go_wp2
  go_ret
  exact ⟨ret_int (cmpQ_eq t x y), by repeat (first | exact Lays.refl _ | apply Lays.alloc | apply Lays.drew)⟩
end Go.Proofs.Ytgjcoebfiangcaa.Old
