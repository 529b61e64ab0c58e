/- The examples of the chapter hold: alive returns true. -/
import Derived.Test.YtgjcoebfiangcaaZRight
import Derived.Test.YtgjcoebfiangcaaZSame
import Derived.Test.YtgjcoebfiangcaaZRWorst
import Derived.Test.YtgjcoebfiangcaaZLaw
namespace Go.Proofs.Ytgjcoebfiangcaa.Old
open Go.RowKit

theorem same_true (xs : List Surf) (v u : Value) (w : World) (hv : Row encS 3 w v xs) (hu : Row encS 3 w u xs) : Calls Try.prog 16 #[v, u] w fun e w' => e = .returned (.bool true) ∧ ∃ n, w' = w.drewN n := by
  have h := same_any xs xs v u w hv hu
  rwa [show (xs == xs) = true from beq_iff_eq.2 rfl] at h
theorem sameInts_true (xs : List Int) (v u : Value) (w : World) (hv : Row encI 1 w v xs) (hu : Row encI 1 w u xs) : Calls Try.prog 21 #[v, u] w fun e w' => e = .returned (.bool true) ∧ ∃ n, w' = w.drewN n := by
  have h := sameInts_any xs xs v u w hv hu
  rwa [show (xs == xs) = true from beq_iff_eq.2 rfl] at h
def L0 : List Surf := [⟨1, -1, 0⟩, ⟨2, 1000, 10⟩, ⟨3, 50, 999995⟩]
theorem L0_right : right L0 = 0 := by decide
theorem L0_g1 : groom L0 3 60 = ([⟨1, -1, 0⟩, ⟨2, 1000, 10⟩, ⟨3, 60, 0⟩], 0) := by decide
theorem L0_g2 : groom L0 3 49 = ([], 11) := by decide
theorem L0_d1 : descend L0 3 10 = ([⟨1, -1, 0⟩, ⟨2, 1000, 10⟩, ⟨3, 50, 1000000⟩], 0) := by decide
theorem L0_d2 : descend L0 4 (-1) = ([], 8) := by decide
theorem L0_w : worst L0 1000 999 = [1, 3, 2] := by
  have h := worst_eq (xs := L0) (ys := [⟨1, -1, 0⟩, ⟨3, 50, 999995⟩, ⟨2, 1000, 10⟩]) (t := 1000) (least := 999) L0_right (by decide) (by decide)
  rw [← h]; rfl

set_option maxHeartbeats 2000000 in
theorem alive_any (w : World) : Calls Try.prog 11 #[] w fun e w' => e = .returned (.bool true) ∧ Below w.heap.size w w' := by
  have hv : Row encS 3 ((w.alloc (.cells #[.int .i64 2, .int .i64 1000, .int .i64 10] 32)).alloc (.cells #[.int .i64 1, .int .i64 (-1), .int .i64 0, .int .i64 2, .int .i64 1000, .int .i64 10, .int .i64 3, .int .i64 50, .int .i64 999995] 32)) (.slice (some ⟨w.heap.size + 1, 0, none⟩) 3 3) L0 := row_lit_at encS_len (w.alloc (.cells #[.int .i64 2, .int .i64 1000, .int .i64 10] 32)) 32 (w.heap.size + 1) L0 (by decide) (by simp)
  have hb0 : Below w.heap.size w ((w.alloc (.cells #[.int .i64 2, .int .i64 1000, .int .i64 10] 32)).alloc (.cells #[.int .i64 1, .int .i64 (-1), .int .i64 0, .int .i64 2, .int .i64 1000, .int .i64 10, .int .i64 3, .int .i64 50, .int .i64 999995] 32)) := ((Below.refl _ w).alloc (Nat.le_refl _) _).alloc (by simp) _
  have hok := (right_ok L0_right).2.1
  have HV := Lib.hid hv; have HK := Lib.hid hok; have H0 := Lib.hid hb0
  have cs0 : ((w.alloc (.cells #[.int .i64 2, .int .i64 1000, .int .i64 10] 32)).alloc (.cells #[.int .i64 1, .int .i64 (-1), .int .i64 0, .int .i64 2, .int .i64 1000, .int .i64 10, .int .i64 3, .int .i64 50, .int .i64 999995] 32)).cell? ⟨w.heap.size, 0, none⟩ = some (.int .i64 2) := by simp
  have cs1 : ((w.alloc (.cells #[.int .i64 2, .int .i64 1000, .int .i64 10] 32)).alloc (.cells #[.int .i64 1, .int .i64 (-1), .int .i64 0, .int .i64 2, .int .i64 1000, .int .i64 10, .int .i64 3, .int .i64 50, .int .i64 999995] 32)).cell? ⟨w.heap.size, 1, none⟩ = some (.int .i64 1000) := by simp
  have cs2 : ((w.alloc (.cells #[.int .i64 2, .int .i64 1000, .int .i64 10] 32)).alloc (.cells #[.int .i64 1, .int .i64 (-1), .int .i64 0, .int .i64 2, .int .i64 1000, .int .i64 10, .int .i64 3, .int .i64 50, .int .i64 999995] 32)).cell? ⟨w.heap.size, 2, none⟩ = some (.int .i64 10) := by simp
  have cl0 : ((w.alloc (.cells #[.int .i64 2, .int .i64 1000, .int .i64 10] 32)).alloc (.cells #[.int .i64 1, .int .i64 (-1), .int .i64 0, .int .i64 2, .int .i64 1000, .int .i64 10, .int .i64 3, .int .i64 50, .int .i64 999995] 32)).cell? ⟨w.heap.size + 1, 0, none⟩ = some (.int .i64 1) := by simp
  have cl1 : ((w.alloc (.cells #[.int .i64 2, .int .i64 1000, .int .i64 10] 32)).alloc (.cells #[.int .i64 1, .int .i64 (-1), .int .i64 0, .int .i64 2, .int .i64 1000, .int .i64 10, .int .i64 3, .int .i64 50, .int .i64 999995] 32)).cell? ⟨w.heap.size + 1, 1, none⟩ = some (.int .i64 (-1)) := by simp
  have cl2 : ((w.alloc (.cells #[.int .i64 2, .int .i64 1000, .int .i64 10] 32)).alloc (.cells #[.int .i64 1, .int .i64 (-1), .int .i64 0, .int .i64 2, .int .i64 1000, .int .i64 10, .int .i64 3, .int .i64 50, .int .i64 999995] 32)).cell? ⟨w.heap.size + 1, 2, none⟩ = some (.int .i64 0) := by simp
  have hsz : ((w.alloc (.cells #[.int .i64 2, .int .i64 1000, .int .i64 10] 32)).alloc (.cells #[.int .i64 1, .int .i64 (-1), .int .i64 0, .int .i64 2, .int .i64 1000, .int .i64 10, .int .i64 3, .int .i64 50, .int .i64 999995] 32)).heap.size = w.heap.size + 2 := by simp
  go_enter Try.func11, Try.ntmps11
  go_wp2_with fail
  generalize (w.alloc (.cells #[.int .i64 2, .int .i64 1000, .int .i64 10] 32)).alloc (.cells #[.int .i64 1, .int .i64 (-1), .int .i64 0, .int .i64 2, .int .i64 1000, .int .i64 10, .int .i64 3, .int .i64 50, .int .i64 999995] 32) = W0 at *
  have HS := Lib.hid hsz
  have hlt0 : w.heap.size < W0.heap.size := by omega
  have hlt1 : w.heap.size + 1 < W0.heap.size := by omega
  clear hv hok hb0 hsz
  have g1 := groom_any L0 _ 3 60 W0 HV.out (by decide)
  rw [L0_g1] at g1
  refine g1.mono ?_
  rintro e w1 ⟨v1, rfl, r1, b1⟩
  have R1 := Lib.hid r1; clear r1 g1
  go_wp2_with fail
  have g2 := descend_any L0 _ 3 10 w1 (HV.out.below b1) (by decide) HK.out
  rw [L0_d1] at g2
  refine g2.mono ?_
  rintro e w2 ⟨v2, rfl, r2, b2'⟩
  have b2 := Below.step b1 b2'
  have R2 := Lib.hid r2; have R1' := Lib.hid (R1.out.below b2'); clear r2 g2 b2' b1 R1
  go_wp2_with fail
  have g3 := groom_any L0 _ 3 49 w2 (HV.out.below b2) (by decide)
  rw [L0_g2] at g3
  refine g3.mono ?_
  rintro e w3 ⟨v3, rfl, _, b3'⟩
  have b3 := Below.step b2 b3'
  have R2' := Lib.hid (R2.out.below b3'); have R1 := Lib.hid (R1'.out.below b3'); clear g3 b3' b2 R1' R2
  go_wp2_with fail
  have g4 := descend_any L0 _ 4 (-1) w3 (HV.out.below b3) (by decide) HK.out
  rw [L0_d2] at g4
  refine g4.mono ?_
  rintro e w4 ⟨v4, rfl, _, b4'⟩
  have b4 := Below.step b3 b4'
  have R2 := Lib.hid (R2'.out.below b4'); have R1' := Lib.hid (R1.out.below b4'); clear g4 b4' b3 R1 R2'
  go_wp2_with fail
  have g5 := right_any L0 _ w4 (HV.out.below b4)
  rw [L0_right] at g5
  refine g5.mono ?_
  rintro e w5 ⟨rfl, b5'⟩
  have b5 := Below.step b4 b5'
  have R1 := Lib.hid (R1'.out.below b5'); have R2' := Lib.hid (R2.out.below b5'); clear g5 b5' b4 R1' R2
  have e0 := (b5.cell (p := ⟨w.heap.size, 0, none⟩) hlt0).trans cs0
  have e1 := (b5.cell (p := ⟨w.heap.size, 1, none⟩) hlt0).trans cs1
  have e2 := (b5.cell (p := ⟨w.heap.size, 2, none⟩) hlt0).trans cs2
  have f0 := (b5.cell (p := ⟨w.heap.size + 1, 0, none⟩) hlt1).trans cl0
  have f1 := (b5.cell (p := ⟨w.heap.size + 1, 1, none⟩) hlt1).trans cl1
  have f2 := (b5.cell (p := ⟨w.heap.size + 1, 2, none⟩) hlt1).trans cl2
  clear cs0 cs1 cs2 cl0 cl1 cl2
  have hs0 : w.heap.size + 1 < w5.heap.size := Nat.lt_of_lt_of_le hlt1 b5.size
  go_wp2_with fail
  have q5 := quality_any ⟨2, 1000, 10⟩ 4599 w5 (by decide) (by decide)
  rw [show quality ⟨2, 1000, 10⟩ 4599 = 998 from by decide] at q5
  refine q5.mono ?_
  rintro e w6 ⟨rfl, hw⟩
  have b' : Below w5.heap.size w5 w6 := by subst hw; exact (Below.refl _ _).alloc (Nat.le_refl _) _
  clear hw q5
  have b6 := Below.step b5 b'
  replace e0 := (b'.cell (p := ⟨w.heap.size, 0, none⟩) (by show w.heap.size < w5.heap.size; omega)).trans e0
  replace e1 := (b'.cell (p := ⟨w.heap.size, 1, none⟩) (by show w.heap.size < w5.heap.size; omega)).trans e1
  replace e2 := (b'.cell (p := ⟨w.heap.size, 2, none⟩) (by show w.heap.size < w5.heap.size; omega)).trans e2
  replace f0 := (b'.cell (p := ⟨w.heap.size + 1, 0, none⟩) (by show w.heap.size + 1 < w5.heap.size; omega)).trans f0
  replace f1 := (b'.cell (p := ⟨w.heap.size + 1, 1, none⟩) (by show w.heap.size + 1 < w5.heap.size; omega)).trans f1
  replace f2 := (b'.cell (p := ⟨w.heap.size + 1, 2, none⟩) (by show w.heap.size + 1 < w5.heap.size; omega)).trans f2
  replace R1 := Lib.hid (R1.out.below b')
  replace R2' := Lib.hid (R2'.out.below b')
  replace hs0 : w.heap.size + 1 < w6.heap.size := Nat.lt_of_lt_of_le hs0 b'.size
  clear b' b5
  go_wp2_with fail
  have q6 := quality_any ⟨2, 1000, 10⟩ 4600 w6 (by decide) (by decide)
  rw [show quality ⟨2, 1000, 10⟩ 4600 = 988 from by decide] at q6
  refine q6.mono ?_
  rintro e w7 ⟨rfl, hw⟩
  have b' : Below w6.heap.size w6 w7 := by subst hw; exact (Below.refl _ _).alloc (Nat.le_refl _) _
  clear hw q6
  have b7 := Below.step b6 b'
  replace e0 := (b'.cell (p := ⟨w.heap.size, 0, none⟩) (by show w.heap.size < w6.heap.size; omega)).trans e0
  replace e1 := (b'.cell (p := ⟨w.heap.size, 1, none⟩) (by show w.heap.size < w6.heap.size; omega)).trans e1
  replace e2 := (b'.cell (p := ⟨w.heap.size, 2, none⟩) (by show w.heap.size < w6.heap.size; omega)).trans e2
  replace f0 := (b'.cell (p := ⟨w.heap.size + 1, 0, none⟩) (by show w.heap.size + 1 < w6.heap.size; omega)).trans f0
  replace f1 := (b'.cell (p := ⟨w.heap.size + 1, 1, none⟩) (by show w.heap.size + 1 < w6.heap.size; omega)).trans f1
  replace f2 := (b'.cell (p := ⟨w.heap.size + 1, 2, none⟩) (by show w.heap.size + 1 < w6.heap.size; omega)).trans f2
  replace R1 := Lib.hid (R1.out.below b')
  replace R2' := Lib.hid (R2'.out.below b')
  replace hs0 : w.heap.size + 1 < w7.heap.size := Nat.lt_of_lt_of_le hs0 b'.size
  clear b' b6
  go_wp2_with fail
  have q7 := quality_any ⟨2, 1000, 10⟩ 999 w7 (by decide) (by decide)
  rw [show quality ⟨2, 1000, 10⟩ 999 = 0 from by decide] at q7
  refine q7.mono ?_
  rintro e w8 ⟨rfl, hw⟩
  have b' : Below w7.heap.size w7 w8 := by subst hw; exact (Below.refl _ _).alloc (Nat.le_refl _) _
  clear hw q7
  have b8 := Below.step b7 b'
  replace e0 := (b'.cell (p := ⟨w.heap.size, 0, none⟩) (by show w.heap.size < w7.heap.size; omega)).trans e0
  replace e1 := (b'.cell (p := ⟨w.heap.size, 1, none⟩) (by show w.heap.size < w7.heap.size; omega)).trans e1
  replace e2 := (b'.cell (p := ⟨w.heap.size, 2, none⟩) (by show w.heap.size < w7.heap.size; omega)).trans e2
  replace f0 := (b'.cell (p := ⟨w.heap.size + 1, 0, none⟩) (by show w.heap.size + 1 < w7.heap.size; omega)).trans f0
  replace f1 := (b'.cell (p := ⟨w.heap.size + 1, 1, none⟩) (by show w.heap.size + 1 < w7.heap.size; omega)).trans f1
  replace f2 := (b'.cell (p := ⟨w.heap.size + 1, 2, none⟩) (by show w.heap.size + 1 < w7.heap.size; omega)).trans f2
  replace R1 := Lib.hid (R1.out.below b')
  replace R2' := Lib.hid (R2'.out.below b')
  replace hs0 : w.heap.size + 1 < w8.heap.size := Nat.lt_of_lt_of_le hs0 b'.size
  clear b' b7
  go_wp2_with fail
  refine (worst_any L0 _ 1000 999 w8 (HV.out.below b8) (by decide) HK.out (by decide)).mono ?_
  rintro e w9 ⟨v5, ys, rfl, r5, hp5, hs5, b'⟩
  rw [worst_eq L0_right hp5 hs5, L0_w] at r5
  have R5 := Lib.hid r5
  clear r5 hp5 hs5 ys
  have b9 := Below.step b8 b'
  replace e0 := (b'.cell (p := ⟨w.heap.size, 0, none⟩) (by show w.heap.size < w8.heap.size; omega)).trans e0
  replace e1 := (b'.cell (p := ⟨w.heap.size, 1, none⟩) (by show w.heap.size < w8.heap.size; omega)).trans e1
  replace e2 := (b'.cell (p := ⟨w.heap.size, 2, none⟩) (by show w.heap.size < w8.heap.size; omega)).trans e2
  replace f0 := (b'.cell (p := ⟨w.heap.size + 1, 0, none⟩) (by show w.heap.size + 1 < w8.heap.size; omega)).trans f0
  replace f1 := (b'.cell (p := ⟨w.heap.size + 1, 1, none⟩) (by show w.heap.size + 1 < w8.heap.size; omega)).trans f1
  replace f2 := (b'.cell (p := ⟨w.heap.size + 1, 2, none⟩) (by show w.heap.size + 1 < w8.heap.size; omega)).trans f2
  replace R1 := Lib.hid (R1.out.below b')
  replace R2' := Lib.hid (R2'.out.below b')
  replace hs0 : w.heap.size + 1 < w9.heap.size := Nat.lt_of_lt_of_le hs0 b'.size
  clear b' b8
  go_wp2_with fail
  have si := sameInts_true [1, 3, 2] v5 (.slice (some ⟨w9.heap.size, 0, none⟩) 3 3) (w9.alloc (.cells #[.int .i64 1, .int .i64 3, .int .i64 2] 3)) (R5.out.below ((Below.refl _ _).alloc (Nat.le_refl _) _)) (row_lit_at encI_len w9 3 _ [1, 3, 2] (by decide) rfl)
  refine si.mono ?_
  rintro e w10 ⟨rfl, n, hw⟩
  have b' : Below w9.heap.size w9 w10 := by subst hw; exact below_drewN ((Below.refl _ _).alloc (Nat.le_refl _) _) _
  clear hw si R5
  have b10 := Below.step b9 b'
  replace e0 := (b'.cell (p := ⟨w.heap.size, 0, none⟩) (by show w.heap.size < w9.heap.size; omega)).trans e0
  replace e1 := (b'.cell (p := ⟨w.heap.size, 1, none⟩) (by show w.heap.size < w9.heap.size; omega)).trans e1
  replace e2 := (b'.cell (p := ⟨w.heap.size, 2, none⟩) (by show w.heap.size < w9.heap.size; omega)).trans e2
  replace f0 := (b'.cell (p := ⟨w.heap.size + 1, 0, none⟩) (by show w.heap.size + 1 < w9.heap.size; omega)).trans f0
  replace f1 := (b'.cell (p := ⟨w.heap.size + 1, 1, none⟩) (by show w.heap.size + 1 < w9.heap.size; omega)).trans f1
  replace f2 := (b'.cell (p := ⟨w.heap.size + 1, 2, none⟩) (by show w.heap.size + 1 < w9.heap.size; omega)).trans f2
  replace R1 := Lib.hid (R1.out.below b')
  replace R2' := Lib.hid (R2'.out.below b')
  replace hs0 : w.heap.size + 1 < w10.heap.size := Nat.lt_of_lt_of_le hs0 b'.size
  clear b' b9
  have hd0 : w.heap.size ≠ w10.heap.size := by omega
  have hd1 : w.heap.size + 1 ≠ w10.heap.size := by omega
  have sA := Lib.hid (same_true [⟨1, -1, 0⟩, ⟨2, 1000, 10⟩, ⟨3, 60, 0⟩] v1 (.slice (some ⟨w10.heap.size, 0, none⟩) 3 3) (w10.alloc (.cells #[.int .i64 1, .int .i64 (-1), .int .i64 0, .int .i64 2, .int .i64 1000, .int .i64 10, .int .i64 3, .int .i64 60, .int .i64 0] 32)).drew (R1.out.below ((Below.refl _ _).alloc (Nat.le_refl _) _).drew) (Row.drew (row_lit_at encS_len w10 32 _ [⟨1, -1, 0⟩, ⟨2, 1000, 10⟩, ⟨3, 60, 0⟩] (by decide) rfl)))
  have sB := Lib.hid fun n => same_true [⟨1, -1, 0⟩, ⟨2, 1000, 10⟩, ⟨3, 50, 1000000⟩] v2 (.slice (some ⟨w10.heap.size + 1, 0, none⟩) 3 3) (((w10.alloc (.cells #[.int .i64 1, .int .i64 (-1), .int .i64 0, .int .i64 2, .int .i64 1000, .int .i64 10, .int .i64 3, .int .i64 60, .int .i64 0] 32)).drewN n).alloc (.cells #[.int .i64 1, .int .i64 (-1), .int .i64 0, .int .i64 2, .int .i64 1000, .int .i64 10, .int .i64 3, .int .i64 50, .int .i64 1000000] 32)) (R2'.out.below ((below_drewN ((Below.refl _ _).alloc (Nat.le_refl _) _) _).alloc (by simp) _)) (row_lit_at encS_len ((w10.alloc (.cells #[.int .i64 1, .int .i64 (-1), .int .i64 0, .int .i64 2, .int .i64 1000, .int .i64 10, .int .i64 3, .int .i64 60, .int .i64 0] 32)).drewN n) 32 _ [⟨1, -1, 0⟩, ⟨2, 1000, 10⟩, ⟨3, 50, 1000000⟩] (by decide) (by simp))
  go_wp2_with fail
  go_region_held3 (fun w' => w'.cell? ⟨w.heap.size, 0, none⟩ = some (.int .i64 2) ∧ w'.cell? ⟨w.heap.size, 1, none⟩ = some (.int .i64 1000) ∧ w'.cell? ⟨w.heap.size, 2, none⟩ = some (.int .i64 10) ∧ w'.cell? ⟨w.heap.size + 1, 0, none⟩ = some (.int .i64 1) ∧ w'.cell? ⟨w.heap.size + 1, 1, none⟩ = some (.int .i64 (-1)) ∧ w'.cell? ⟨w.heap.size + 1, 2, none⟩ = some (.int .i64 0)) (((try dsimp only); (repeat' apply And.intro) <;> ((try simp only [World.cell?_drew, World.cell?_drewN]); (first | assumption | (simp; done) | (apply cell_lt_alloc; (first | assumption | (simp; done) | (apply cell_lt_alloc; (first | assumption | (simp; done) | (apply cell_lt_alloc; (first | assumption | (simp; done)))))))))))
    (first | (go_at_call 16; (with_reducible refine Calls.mono sA.out ?_); rintro e w' ⟨rfl, n, rfl⟩) | (go_at_call 16; (with_reducible refine Calls.mono (sB.out _) ?_); rintro e w' ⟨rfl, m, rfl⟩))
  go_wp2
  go_ret
  exact ⟨rfl, Below.step H0.out (Below.step b10 (Lays.below (by repeat (first | exact Lays.refl _ | apply Lays.alloc | apply Lays.drew | apply Lays.drewN))))⟩
end Go.Proofs.Ytgjcoebfiangcaa.Old
