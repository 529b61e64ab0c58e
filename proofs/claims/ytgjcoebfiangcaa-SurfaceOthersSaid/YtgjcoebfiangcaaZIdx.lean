/- surface.find and the reference's index: the place of a run. -/
import Derived.Test.YtgjcoebfiangcaaZEnc
namespace Go.Proofs.Ytgjcoebfiangcaa.Old
open Go.RowKit


/-- The closure of find. -/
theorem find1_any (x : Surf) (run : Int) (B : Nat) (w : World) (hB : B < w.heap.size) (hc : w.cell? ⟨B, 0, none⟩ = some (.int .i64 run)) :
    Calls Try.prog 35 #[.agg #[.int .i64 x.run, .int .i64 x.groomed, .int .i64 x.traffic], .pointer (some ⟨B, 0, none⟩)] w fun e w' => e = .returned (.bool (x.run == run)) ∧ Below w.heap.size w w' := by
  have hne : B ≠ w.heap.size := by omega
  go_enter Try.func35, Try.ntmps35
  go_wp2
  go_ret
  exact ⟨rfl, (Below.refl _ _).alloc (Nat.le_refl _) _⟩

set_option maxHeartbeats 400000 in
theorem indexFunc_any (xs : List Surf) (v : Value) (run : Int) (B : Nat) (w : World) (hv : Row encS 3 w v xs) (hB : B < w.heap.size) (hcB : w.cell? ⟨B, 0, none⟩ = some (.int .i64 run)) :
    Calls Try.prog 34 #[v, .func (.func 35) #[] #[.pointer (some ⟨B, 0, none⟩)]] w fun e w' => e = .returned (.int .i64 (idx xs run)) ∧ Below w.heap.size w w' := by
  obtain ⟨A, c, rfl, hc1, hc2, hcells⟩ := hv
  have H := Lib.hid hcells; clear hcells
  have HB := Lib.hid hcB; clear hcB
  go_enter Try.func34, Try.ntmps34
  go_wp2
  go_loopw [8] (fun i wr => ∃ k : Nat, k ≤ xs.length ∧ i = .int .i64 k ∧ Hid (idx xs run = idxFrom run k (xs.drop k)) ∧ Below w.heap.size w wr) (fun i _ => xs.length - (intOf i).toNat)
  case atStart => exact ⟨0, Nat.zero_le _, rfl, Lib.hid (by simp [idx]), Below.refl _ _⟩
  case round =>
    obtain ⟨k, hk, rfl, hr, hb⟩ := hrel
    by_cases hlt : k < xs.length
    · obtain ⟨b, off, rfl, hbl, hcl⟩ := H.out (by omega)
      have hx : xs[k]? = some xs[k] := List.getElem?_eq_getElem hlt
      have hc := hcl k _ hx
      have c0 := (hb.cell (p := ⟨b, _, none⟩) hbl).trans (hc 0 _ rfl)
      rw [Nat.add_zero] at c0
      have c1 := (hb.cell (p := ⟨b, _, none⟩) hbl).trans (hc 1 _ rfl)
      have c2 := (hb.cell (p := ⟨b, _, none⟩) hbl).trans (hc 2 _ rfl)
      have cB := Lib.hid ((hb.cell (p := ⟨B, _, none⟩) hB).trans HB.out)
      have hz := hb.size
      have HX := Lib.hid (idx_step (run := run) hx)
      clear hcl hc hx H
      generalize xs[k] = x at *
      by_cases hrun : x.run = run
      · have hq : (x.run == run) = true := by simpa using hrun
        have HR := Lib.hid hrun; clear hrun
        go_wp2_with (go_at_call 35; refine (find1_any x run B _ (by omega) cB.out).mono ?_; rintro e w' ⟨rfl, hb'⟩)
        go_ret
        exact ⟨ret_int (by rw [hr.out, HX.out, if_pos HR.out]), Below.step hb hb'⟩
      · have hq : (x.run == run) = false := by simpa using hrun
        have HR := Lib.hid hrun; clear hrun
        go_wp2_with (go_at_call 35; refine (find1_any x run B _ (by omega) cB.out).mono ?_; rintro e w' ⟨rfl, hb'⟩)
        exact ⟨⟨k + 1, by omega, by go_num, Lib.hid (by rw [hr.out, HX.out, if_neg HR.out]), Below.step hb hb'⟩, by simp [intOf]; omega⟩
    · go_wp2
      go_ret
      exact ⟨ret_int (by rw [hr.out, idx_end hlt]), hb⟩

set_option maxHeartbeats 400000 in
theorem find_any (xs : List Surf) (v : Value) (run : Int) (w : World) (hv : Row encS 3 w v xs) :
    Calls Try.prog 24 #[v, .int .i64 run] w fun e w' => e = .returned (.int .i64 (idx xs run)) ∧ Below w.heap.size w w' := by
  have hcon := Lib.hid (indexFunc_any xs v run w.heap.size (w.alloc (.cells #[.int .i64 run] 3)) (hv.below ((Below.refl _ _).alloc (Nat.le_refl _) _)) (by simp) (by simp))
  clear hv
  go_enter Try.func24, Try.ntmps24
  go_wp2_with (go_at_call 34; refine hcon.out.mono ?_; rintro e w' ⟨rfl, hb'⟩)
  go_ret
  exact ⟨rfl, ((Below.refl _ w).alloc (Nat.le_refl _) _).trans (hb'.mono (by simp))⟩

set_option maxHeartbeats 400000 in
theorem refIndex_any (xs : List Surf) (v : Value) (run : Int) (w : World) (hv : Row encS 3 w v xs) :
    Calls Try.prog 26 #[v, .int .i64 run] w fun e w' => e = .returned (.int .i64 (idx xs run)) ∧ w = w' := by
  obtain ⟨A, c, rfl, hc1, hc2, hcells⟩ := hv
  have H := Lib.hid hcells; clear hcells
  go_enter Try.func26, Try.ntmps26
  go_wp2
  go_loop [5] (fun i => ∃ k : Nat, k ≤ xs.length ∧ i = .int .i64 k ∧ Hid (idx xs run = idxFrom run k (xs.drop k))) (fun i => xs.length - (intOf i).toNat)
  case atStart => exact ⟨0, Nat.zero_le _, rfl, Lib.hid (by simp [idx])⟩
  case round =>
    obtain ⟨k, hk, rfl, hr⟩ := hrel
    by_cases hlt : k < xs.length
    · obtain ⟨b, off, rfl, hbl, hcl⟩ := H.out (by omega)
      have hx : xs[k]? = some xs[k] := List.getElem?_eq_getElem hlt
      have c0 := hcl k _ hx 0 _ rfl
      rw [Nat.add_zero] at c0
      have HX := Lib.hid (idx_step (run := run) hx)
      clear hcl hx H
      generalize xs[k] = x at *
      by_cases hrun : x.run = run
      · have hq : (x.run == run) = true := by simpa using hrun
        have HR := Lib.hid hrun; clear hrun
        go_wp2
        go_ret
        exact ⟨ret_int (by rw [hr.out, HX.out, if_pos HR.out]), rfl⟩
      · have hq : (x.run == run) = false := by simpa using hrun
        have HR := Lib.hid hrun; clear hrun
        go_wp2
        exact ⟨⟨k + 1, by omega, by go_num, Lib.hid (by rw [hr.out, HX.out, if_neg HR.out])⟩, by simp [intOf]; omega⟩
    · go_wp2
      go_ret
      exact ⟨ret_int (by rw [hr.out, idx_end hlt]), rfl⟩
end Go.Proofs.Ytgjcoebfiangcaa.Old
