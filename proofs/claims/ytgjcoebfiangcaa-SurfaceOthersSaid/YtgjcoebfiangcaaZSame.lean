/- The reference's Same and SameInts. -/
import Derived.Test.YtgjcoebfiangcaaZEnc
import Derived.Test.YtgjcoebfiangcaaZCmp
namespace Go.Proofs.Ytgjcoebfiangcaa.Old
open Go.RowKit

theorem surf_beq (x y : Surf) : (x == y) = ((x.run == y.run) && ((x.groomed == y.groomed) && (x.traffic == y.traffic))) := by
  rw [Bool.eq_iff_iff]; simp; constructor
  · rintro rfl; simp
  · cases x; cases y; simp
theorem neqS_same (x : Surf) (w : World) : (binOp .neq 32 (.agg #[.int .i64 x.run, .int .i64 x.groomed, .int .i64 x.traffic]) (.agg #[.int .i64 x.run, .int .i64 x.groomed, .int .i64 x.traffic])).run Try.prog w = .ok (.bool false) w := by
  go_simp
theorem neqS_diff {x y : Surf} (h : x ≠ y) (w : World) : (binOp .neq 32 (.agg #[.int .i64 x.run, .int .i64 x.groomed, .int .i64 x.traffic]) (.agg #[.int .i64 y.run, .int .i64 y.groomed, .int .i64 y.traffic])).run Try.prog w = .ok (.bool true) w := by
  have h' : ¬ (x.run = y.run ∧ x.groomed = y.groomed ∧ x.traffic = y.traffic) := by cases x; cases y; simpa using h
  go_simp
  by_cases a : x.run = y.run
  · by_cases b : x.groomed = y.groomed
    · have c : x.traffic ≠ y.traffic := fun c => h' ⟨a, b, c⟩
      simp [a, b, c]
    · simp [a, b]
  · simp [a]
set_option maxHeartbeats 1000000 in
theorem same_any (xs ys : List Surf) (v u : Value) (w : World) (hv : Row encS 3 w v xs) (hu : Row encS 3 w u ys) :
    Calls Try.prog 16 #[v, u] w fun e w' => e = .returned (.bool (xs == ys)) ∧ ∃ n, w' = w.drewN n := by
  obtain ⟨A, c, rfl, hc1, hc2, hcells⟩ := hv
  obtain ⟨A', c', rfl, hc1', hc2', hcells'⟩ := hu
  have H := Lib.hid hcells; clear hcells
  have H' := Lib.hid hcells'; clear hcells'
  by_cases hl : xs.length = ys.length
  · have hq : ((xs.length : Int) != (ys.length : Int)) = false := by simp; omega
    have hq' : (xs.length != ys.length) = false := by simp; omega
    have HL := Lib.hid hl; clear hl
    go_enter Try.func16, Try.ntmps16
    go_wp2
    go_loopw [5] (fun n wr => ∃ k : Nat, k ≤ xs.length ∧ n = .int .i64 k ∧ Hid (xs.take k = ys.take k) ∧ ∃ m, wr = w.drewN m) (fun n _ => xs.length - (intOf n).toNat)
    case atStart => exact ⟨0, Nat.zero_le _, rfl, Lib.hid (by simp), 0, rfl⟩
    case round =>
      obtain ⟨k, hk, rfl, hr, m, rfl⟩ := hrel
      by_cases hlt : k < xs.length
      · obtain ⟨b, off, rfl, hbl, hcl⟩ := H.out (by omega)
        obtain ⟨b', off', rfl, hbl', hcl'⟩ := H'.out (by have := HL.out; omega)
        have hlt' : k < ys.length := by have := HL.out; omega
        have hx : xs[k]? = some xs[k] := List.getElem?_eq_getElem hlt
        have hy : ys[k]? = some ys[k] := List.getElem?_eq_getElem hlt'
        have hc := hcl k _ hx
        have c0 := hc 0 _ rfl
        rw [Nat.add_zero] at c0
        have c1 := hc 1 _ rfl
        have c2 := hc 2 _ rfl
        have hd := hcl' k _ hy
        have d0 := hd 0 _ rfl
        rw [Nat.add_zero] at d0
        have d1 := hd 1 _ rfl
        have d2 := hd 2 _ rfl
        have HX := Lib.hid hx
        have HY := Lib.hid hy
        have hi1 : (k : Int) < (xs.length : Int) := by omega
        have hi2 : (k : Int) < (ys.length : Int) := by omega
        clear hcl hc hx hcl' hd hy H H'
        generalize xs[k] = x at *
        generalize ys[k] = y at *
        by_cases hxy : x = y
        · have hne := fun W => neqS_same x W
          subst hxy
          go_wp2
          go_quiet (fail)
          go_wp2
          exact ⟨⟨k + 1, by omega, by go_num, Lib.hid (by rw [List.take_add_one, List.take_add_one, HX.out, HY.out, hr.out]), _, rfl⟩, by simp [intOf]; omega⟩
        · have hne := fun W => neqS_diff hxy W
          have HN := Lib.hid hxy; clear hxy
          go_wp2
          go_quiet (fail)
          go_wp2
          go_ret
          exact ⟨ret_bool (by symm; rw [beq_eq_false_iff_ne]; rintro rfl; rw [HX.out] at HY; exact HN.out (Option.some.inj HY.out)), _, World.drewN_drewN _ _ _⟩
      · go_wp2
        go_ret
        exact ⟨ret_bool (by have := hr.out; rw [List.take_of_length_le (by omega), List.take_of_length_le (by have := HL.out; omega)] at this; symm; rw [beq_iff_eq]; exact this), _, rfl⟩
  · have hq : ((xs.length : Int) != (ys.length : Int)) = true := by simp; omega
    have hq' : (xs.length != ys.length) = true := by simp; omega
    go_enter Try.func16, Try.ntmps16
    go_wp2
    go_ret
    exact ⟨ret_bool (by symm; simp; rintro rfl; exact hl rfl), 0, rfl⟩
set_option maxHeartbeats 1000000 in
theorem sameInts_any (xs ys : List Int) (v u : Value) (w : World) (hv : Row encI 1 w v xs) (hu : Row encI 1 w u ys) :
    Calls Try.prog 21 #[v, u] w fun e w' => e = .returned (.bool (xs == ys)) ∧ ∃ n, w' = w.drewN n := by
  obtain ⟨A, c, rfl, hc1, hc2, hcells⟩ := hv
  obtain ⟨A', c', rfl, hc1', hc2', hcells'⟩ := hu
  have H := Lib.hid hcells; clear hcells
  have H' := Lib.hid hcells'; clear hcells'
  by_cases hl : xs.length = ys.length
  · have hq : ((xs.length : Int) != (ys.length : Int)) = false := by simp; omega
    have hq' : (xs.length != ys.length) = false := by simp; omega
    have HL := Lib.hid hl; clear hl
    go_enter Try.func21, Try.ntmps21
    go_wp2
    go_loopw [5] (fun n wr => ∃ k : Nat, k ≤ xs.length ∧ n = .int .i64 k ∧ Hid (xs.take k = ys.take k) ∧ ∃ m, wr = w.drewN m) (fun n _ => xs.length - (intOf n).toNat)
    case atStart => exact ⟨0, Nat.zero_le _, rfl, Lib.hid (by simp), 0, rfl⟩
    case round =>
      obtain ⟨k, hk, rfl, hr, m, rfl⟩ := hrel
      by_cases hlt : k < xs.length
      · obtain ⟨b, off, rfl, hbl, hcl⟩ := H.out (by omega)
        obtain ⟨b', off', rfl, hbl', hcl'⟩ := H'.out (by have := HL.out; omega)
        have hlt' : k < ys.length := by have := HL.out; omega
        have hx : xs[k]? = some xs[k] := List.getElem?_eq_getElem hlt
        have hy : ys[k]? = some ys[k] := List.getElem?_eq_getElem hlt'
        have hc := hcl k _ hx
        have c0 := hc 0 _ rfl
        rw [Nat.add_zero, Nat.mul_one] at c0
        have hd := hcl' k _ hy
        have d0 := hd 0 _ rfl
        rw [Nat.add_zero, Nat.mul_one] at d0
        have HX := Lib.hid hx
        have HY := Lib.hid hy
        have hi1 : (k : Int) < (xs.length : Int) := by omega
        have hi2 : (k : Int) < (ys.length : Int) := by omega
        clear hcl hc hx hcl' hd hy H H'
        generalize xs[k] = x at *
        generalize ys[k] = y at *
        by_cases hxy : x = y
        · have hne : (x != y) = false := by simpa using hxy
          have HN := Lib.hid hxy; clear hxy
          go_wp2
          go_quiet (fail)
          go_wp2
          exact ⟨⟨k + 1, by omega, by go_num, Lib.hid (by rw [List.take_add_one, List.take_add_one, HX.out, HY.out, hr.out, HN.out]), _, rfl⟩, by simp [intOf]; omega⟩
        · have hne : (x != y) = true := by simpa using hxy
          have HN := Lib.hid hxy; clear hxy
          go_wp2
          go_quiet (fail)
          go_wp2
          go_ret
          exact ⟨ret_bool (by symm; rw [beq_eq_false_iff_ne]; rintro rfl; rw [HX.out] at HY; exact HN.out (Option.some.inj HY.out)), _, World.drewN_drewN _ _ _⟩
      · go_wp2
        go_ret
        exact ⟨ret_bool (by have := hr.out; rw [List.take_of_length_le (by omega), List.take_of_length_le (by have := HL.out; omega)] at this; symm; rw [beq_iff_eq]; exact this), _, rfl⟩
  · have hq : ((xs.length : Int) != (ys.length : Int)) = true := by simp; omega
    have hq' : (xs.length != ys.length) = true := by simp; omega
    go_enter Try.func21, Try.ntmps21
    go_wp2
    go_ret
    exact ⟨ret_bool (by symm; simp; rintro rfl; exact hl rfl), 0, rfl⟩
end Go.Proofs.Ytgjcoebfiangcaa.Old
