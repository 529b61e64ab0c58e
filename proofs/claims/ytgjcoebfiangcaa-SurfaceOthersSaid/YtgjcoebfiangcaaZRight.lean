/- surface.Right and the reference's Right. -/
import Derived.Test.YtgjcoebfiangcaaZEnc
namespace Go.Proofs.Ytgjcoebfiangcaa.Old
open Go.RowKit

set_option maxHeartbeats 1000000 in
theorem right_any (xs : List Surf) (v : Value) (w : World) (hv : Row encS 3 w v xs) :
    Calls Try.prog 12 #[v] w fun e w' => e = .returned (.int .i64 (right xs)) ∧ Below w.heap.size w w' := by
  obtain ⟨A, c, rfl, hc1, hc2, hcells⟩ := hv
  have H := Lib.hid hcells; clear hcells
  by_cases hl : 64 < xs.length
  · go_enter Try.func12, Try.ntmps12
    go_wp2
    go_ret
    exact ⟨by simp [right, hl], Below.refl _ _⟩
  · have hl' : decide (64 < xs.length) = false := by simpa using hl
    go_enter Try.func12, Try.ntmps12
    go_wp2
    go_loopw [10] (fun i wr => ∃ k : Nat, k ≤ xs.length ∧ i = .int .i64 k ∧ RightAt xs k ∧ Below w.heap.size w wr) (fun i _ => xs.length - (intOf i).toNat)
    case atStart => exact ⟨0, Nat.zero_le _, rfl, ⟨0, by simp, by simp, by omega⟩, Below.refl _ _⟩
    case round =>
      obtain ⟨k, hk, rfl, hr, hb⟩ := hrel
      have HR := Lib.hid hr; clear hr
      by_cases hlt : k < xs.length
      · obtain ⟨b, off, rfl, hbl, hcl⟩ := H.out (by omega)
        have hx : xs[k]? = some xs[k] := List.getElem?_eq_getElem hlt
        have hc := hcl k _ hx
        have c0 := (hb.cell (p := ⟨b, _, none⟩) hbl).trans (hc 0 _ rfl)
        rw [Nat.add_zero] at c0
        have c1 := (hb.cell (p := ⟨b, _, none⟩) hbl).trans (hc 1 _ rfl)
        have c2 := (hb.cell (p := ⟨b, _, none⟩) hbl).trans (hc 2 _ rfl)
        have hz := hb.size
        have hbz : b < wr.heap.size := by omega
        have hne : b ≠ wr.heap.size := by omega
        have HX := Lib.hid hx
        have HC := Lib.hid hcl
        clear hcl hc hx H
        generalize xs[k] = x at *
        by_cases hok : okS x
        · have HK := Lib.hid hok
          unfold okS at hok
          rcases Nat.eq_zero_or_pos k with hk0 | hk0
          · have hd : decide (0 < k) = false := by simp [hk0]
            have HK0 := Lib.hid hk0; clear hk0
            go_wp2
            go_quiet (fail)
            go_wp2
            exact ⟨⟨k + 1, by omega, by go_num, by have e := HK0.out; subst e; exact RightAt.next0 HX.out HK.out, below_drewN (hb.alloc hz _) _⟩, by simp [intOf]; omega⟩
          · have hy : xs[k-1]? = some xs[k-1] := List.getElem?_eq_getElem (by omega)
            have d0 := (hb.cell (p := ⟨b, _, none⟩) hbl).trans (HC.out _ _ hy 0 _ rfl)
            rw [Nat.add_zero] at d0
            have HY := Lib.hid hy; clear hy
            generalize xs[k-1] = y at *
            go_wp2
            have i1 : IntKind.i64.wrap ((k : Int) - 1) = (k : Int) - 1 := IntWalk.i64_in _ (by omega)
            have i2 : (0 : Int) ≤ (k : Int) - 1 := by omega
            have i3 : ((k : Int) - 1).toNat = k - 1 := by omega
            have i4 : (k : Int) - 1 < (xs.length : Int) := by omega
            go_quiet (fail)
            clear i1 i2 i3 i4
            go_wp2
            · go_ret
              exact ⟨ret_int (by rw [right, if_neg hl, (HR.out.step HX.out HY.out hk0 HK.out).1 (by assumption)]), below_drewN (hb.alloc hz _) _⟩
            · exact ⟨⟨k + 1, by omega, by go_num, (HR.out.step HX.out HY.out hk0 HK.out).2 (by omega), below_drewN (hb.alloc hz _) _⟩, by simp [intOf]; omega⟩
        · have hok' := hok
          unfold okS at hok'
          go_wp2
          all_goals
            go_ret
            exact ⟨ret_int (HR.out.bad HX.out hok hl).symm, hb.alloc hz _⟩
      · go_wp2
        go_ret
        exact ⟨ret_int (HR.out.done hlt hl).symm, hb⟩
set_option maxHeartbeats 1000000 in
theorem refRight_any (xs : List Surf) (v : Value) (w : World) (hv : Row encS 3 w v xs) :
    Calls Try.prog 13 #[v] w fun e w' => e = .returned (.int .i64 (right xs)) ∧ Below w.heap.size w w' := by
  obtain ⟨A, c, rfl, hc1, hc2, hcells⟩ := hv
  have H := Lib.hid hcells; clear hcells
  by_cases hl : 64 < xs.length
  · go_enter Try.func13, Try.ntmps13
    go_wp2
    go_ret
    exact ⟨by simp [right, hl], Below.refl _ _⟩
  · have hl' : decide (64 < xs.length) = false := by simpa using hl
    go_enter Try.func13, Try.ntmps13
    go_wp2
    go_loopw [3] (fun i wr => ∃ k : Nat, k ≤ xs.length ∧ i = .int .i64 k ∧ RightAt xs k ∧ Below w.heap.size w wr) (fun i _ => xs.length - (intOf i).toNat)
    case atStart => exact ⟨0, Nat.zero_le _, rfl, ⟨0, by simp, by simp, by omega⟩, Below.refl _ _⟩
    case round =>
      obtain ⟨k, hk, rfl, hr, hb⟩ := hrel
      have HR := Lib.hid hr; clear hr
      by_cases hlt : k < xs.length
      · obtain ⟨b, off, rfl, hbl, hcl⟩ := H.out (by omega)
        have hx : xs[k]? = some xs[k] := List.getElem?_eq_getElem hlt
        have hc := hcl k _ hx
        have c0 := (hb.cell (p := ⟨b, _, none⟩) hbl).trans (hc 0 _ rfl)
        rw [Nat.add_zero] at c0
        have c1 := (hb.cell (p := ⟨b, _, none⟩) hbl).trans (hc 1 _ rfl)
        have c2 := (hb.cell (p := ⟨b, _, none⟩) hbl).trans (hc 2 _ rfl)
        have hz := hb.size
        have hbz : b < wr.heap.size := by omega
        have hne : b ≠ wr.heap.size := by omega
        have HX := Lib.hid hx
        have HC := Lib.hid hcl
        clear hcl hc hx H
        generalize xs[k] = x at *
        by_cases hok : okS x
        · have HK := Lib.hid hok
          unfold okS at hok
          rcases Nat.eq_zero_or_pos k with hk0 | hk0
          · have hd : decide (0 < k) = false := by simp [hk0]
            have HK0 := Lib.hid hk0; clear hk0
            go_wp2
            go_quiet (fail)
            go_wp2
            exact ⟨⟨k + 1, by omega, by go_num, by have e := HK0.out; subst e; exact RightAt.next0 HX.out HK.out, below_drewN (hb.alloc hz _) _⟩, by simp [intOf]; omega⟩
          · have hy : xs[k-1]? = some xs[k-1] := List.getElem?_eq_getElem (by omega)
            have d0 := (hb.cell (p := ⟨b, _, none⟩) hbl).trans (HC.out _ _ hy 0 _ rfl)
            rw [Nat.add_zero] at d0
            have HY := Lib.hid hy; clear hy
            generalize xs[k-1] = y at *
            go_wp2
            have i1 : IntKind.i64.wrap ((k : Int) - 1) = (k : Int) - 1 := IntWalk.i64_in _ (by omega)
            have i2 : (0 : Int) ≤ (k : Int) - 1 := by omega
            have i3 : ((k : Int) - 1).toNat = k - 1 := by omega
            have i4 : (k : Int) - 1 < (xs.length : Int) := by omega
            go_quiet (fail)
            clear i1 i2 i3 i4
            go_wp2
            · go_ret
              exact ⟨ret_int (by rw [right, if_neg hl, (HR.out.step HX.out HY.out hk0 HK.out).1 (by assumption)]), below_drewN (hb.alloc hz _) _⟩
            · exact ⟨⟨k + 1, by omega, by go_num, (HR.out.step HX.out HY.out hk0 HK.out).2 (by omega), below_drewN (hb.alloc hz _) _⟩, by simp [intOf]; omega⟩
        · have hok' := hok
          unfold okS at hok'
          go_wp2
          all_goals
            go_ret
            exact ⟨ret_int (HR.out.bad HX.out hok hl).symm, hb.alloc hz _⟩
      · go_wp2
        go_ret
        exact ⟨ret_int (HR.out.done hlt hl).symm, hb⟩
end Go.Proofs.Ytgjcoebfiangcaa.Old
