/- Quality, and the reference's Quality, with, Groom and Descend. -/
import Derived.Test.YtgjcoebfiangcaaZClone
namespace Go.Proofs.Ytgjcoebfiangcaa.Old
open Go.RowKit

set_option maxHeartbeats 400000 in
theorem quality_any (x : Surf) (t : Int) (w : World) (hx : okS x) (ht : t ≤ 9223372036854775807) :
    Calls Try.prog 19 #[.agg #[.int .i64 x.run, .int .i64 x.groomed, .int .i64 x.traffic], .int .i64 t] w fun e w' => e = .returned (.int .i64 (quality x t)) ∧ w' = w.alloc (.cells #[.int .i64 x.run, .int .i64 x.groomed, .int .i64 x.traffic] 32) := by
  obtain ⟨_, _, h1, h2, h3, h4⟩ := hx
  by_cases c1 : x.groomed < 0
  · go_enter Try.func19, Try.ntmps19
    go_wp2
    go_ret
    exact ⟨ret_int (by rw [quality, if_pos (Or.inl c1)]), rfl⟩
  · by_cases c2 : t < x.groomed
    · go_enter Try.func19, Try.ntmps19
      go_wp2
      go_ret
      exact ⟨ret_int (by rw [quality, if_pos (Or.inr c2)]), rfl⟩
    · go_enter Try.func19, Try.ntmps19
      go_wp2
      all_goals
        go_ret
        exact ⟨ret_int (by rw [quality, if_neg (by omega)]; try (rw [Int.mul_comm])), rfl⟩

set_option maxHeartbeats 400000 in
theorem refQuality_any (x : Surf) (t : Int) (w : World) (hx : okS x) (ht : t ≤ 9223372036854775807) :
    Calls Try.prog 20 #[.agg #[.int .i64 x.run, .int .i64 x.groomed, .int .i64 x.traffic], .int .i64 t] w fun e w' => e = .returned (.int .i64 (quality x t)) ∧ w' = w.alloc (.cells #[.int .i64 x.run, .int .i64 x.groomed, .int .i64 x.traffic] 32) := by
  obtain ⟨_, _, h1, h2, h3, h4⟩ := hx
  by_cases c1 : x.groomed < 0
  · go_enter Try.func20, Try.ntmps20
    go_wp2
    go_ret
    exact ⟨ret_int (by rw [quality, if_pos (Or.inl c1)]), rfl⟩
  · by_cases c2 : t < x.groomed
    · go_enter Try.func20, Try.ntmps20
      go_wp2
      go_ret
      exact ⟨ret_int (by rw [quality, if_pos (Or.inr c2)]), rfl⟩
    · go_enter Try.func20, Try.ntmps20
      go_wp2
      all_goals
        go_ret
        exact ⟨ret_int (by rw [quality, if_neg (by omega)]; try (rw [Int.mul_comm])), rfl⟩

set_option maxHeartbeats 1000000 in
theorem with_any (xs : List Surf) (v : Value) (i : Nat) (y : Surf) (w : World) (hv : Row encS 3 w v xs) (hl : xs.length ≤ 1000) :
    Calls Try.prog 27 #[v, .int .i64 i, .agg #[.int .i64 y.run, .int .i64 y.groomed, .int .i64 y.traffic]] w fun e w' => ∃ v', e = .returned v' ∧ Own encS 3 32 w.heap.size w' v' (xs.set i y) ∧ Below w.heap.size w w' := by
  obtain ⟨i0, hi, hz0, hz1, hz2⟩ := info_parts infoS
  obtain ⟨A, c, rfl, hc1, hc2, hcells⟩ := hv
  have H := Lib.hid hcells; clear hcells
  go_enter Try.func27, Try.ntmps27
  go_wp2
  go_loopw [7, 8] (fun u n wr => ∃ k : Nat, k ≤ xs.length ∧ n = .int .i64 k ∧ Own encS 3 32 (w.heap.size + 1) wr u ((xs.set i y).take k) ∧ Below (w.heap.size + 1) (w.alloc (.cells #[.int .i64 y.run, .int .i64 y.groomed, .int .i64 y.traffic] 32)) wr) (fun _ n _ => xs.length - (intOf n).toNat)
  case atStart => exact ⟨0, Nat.zero_le _, rfl, World.ownsRow_nil _ _ _ _, Below.refl _ _⟩
  case round =>
    obtain ⟨k, hk, rfl, ho, hb⟩ := hrel
    by_cases hlt : k < xs.length
    · obtain ⟨b, off, rfl, hbl, hcl⟩ := H.out (by omega)
      have hz := hb.size
      have hz' : w.heap.size + 1 ≤ wr.heap.size := by simpa using hz
      have HO := Lib.hid ho; clear ho
      by_cases hki : k = i
      · have hq : ((k : Int) == (i : Int)) = true := by simp [hki]
        have hq' : (k == i) = true := by simp [hki]
        have HK := Lib.hid hki; clear hki hcl
        have y0 : wr.cell? ⟨w.heap.size, 0, none⟩ = some (.int .i64 y.run) := (hb.cell (p := ⟨w.heap.size, 0, none⟩) (by simp)).trans (by simp)
        have y1 : wr.cell? ⟨w.heap.size, 1, none⟩ = some (.int .i64 y.groomed) := (hb.cell (p := ⟨w.heap.size, 1, none⟩) (by simp)).trans (by simp)
        have y2 : wr.cell? ⟨w.heap.size, 2, none⟩ = some (.int .i64 y.traffic) := (hb.cell (p := ⟨w.heap.size, 2, none⟩) (by simp)).trans (by simp)
        go_wp2_with (at_builtin; refine wpList_append_any _ rfl (.tmp 18) (.tmp 20) 22 rfl (w.heap.size + 1) 32 i0 _ 3 24 Try.underlying22 hi hz0 hz1 hz2 rfl (by decide) _ _ _ rfl (HO.out.alloc _) _ _ 1 1 _ rfl (reads_new wr [.int .i64 y.run, .int .i64 y.groomed, .int .i64 y.traffic] 32 3 rfl) (by simp [Value.oneCell']) (by unfold maxLen; simp; omega) (by simp; omega) (by simp; omega) ?_; intro v' w1 hown' hgrow _)
        exact ⟨⟨k + 1, by omega, by go_num, by rw [take_snoc _ k y (by rw [← HK.out]; simp [hlt])]; exact Own.snoc hown' rfl, (hb.alloc hz' _).grown hgrow (by simp; omega) HO.out.lt⟩, by simp [intOf]; omega⟩
      · have hq : ((k : Int) == (i : Int)) = false := by simp; omega
        have hq' : (k == i) = false := by simpa using hki
        have HK := Lib.hid hki; clear hki
        have hx : xs[k]? = some xs[k] := List.getElem?_eq_getElem hlt
        have hc := hcl k _ hx
        have hbw : ∀ o, wr.cell? ⟨b, o, none⟩ = w.cell? ⟨b, o, none⟩ := fun o => (hb.cell (p := ⟨b, o, none⟩) (by show b < _; omega)).trans (World.cell?_alloc_lt w _ ⟨b, o, none⟩ hbl)
        have c0 := (hbw _).trans (hc 0 _ rfl)
        rw [Nat.add_zero] at c0
        have c1 := (hbw _).trans (hc 1 _ rfl)
        have c2 := (hbw _).trans (hc 2 _ rfl)
        have HX := Lib.hid hx
        clear hcl hc hx hbw
        generalize xs[k] = x at *
        go_wp2_with (at_builtin; refine wpList_append_any _ rfl (.tmp 22) (.tmp 27) 22 rfl (w.heap.size + 1) 32 i0 _ 3 24 Try.underlying22 hi hz0 hz1 hz2 rfl (by decide) _ _ _ rfl (HO.out.alloc _) _ _ 1 1 _ rfl (reads_new wr [.int .i64 x.run, .int .i64 x.groomed, .int .i64 x.traffic] 32 3 rfl) (by simp [Value.oneCell']) (by unfold maxLen; simp; omega) (by simp; omega) (by simp; omega) ?_; intro v' w1 hown' hgrow _)
        exact ⟨⟨k + 1, by omega, by go_num, by rw [take_snoc _ k x (by simp [HX.out, Ne.symm HK.out])]; exact Own.snoc hown' rfl, (hb.alloc hz' _).grown hgrow (by simp; omega) HO.out.lt⟩, by simp [intOf]; omega⟩
    · go_wp2
      go_ret
      exact ⟨_, rfl, by rw [List.take_of_length_le (by simp; omega)] at ho; exact ho.lower (by omega), ((Below.refl _ w).alloc (Nat.le_refl _) _).trans (hb.mono (by omega))⟩

set_option maxHeartbeats 1000000 in
theorem refGroom_any (xs : List Surf) (v : Value) (run t : Int) (w : World) (hv : Row encS 3 w v xs) (hl : xs.length ≤ 1000) :
    Calls Try.prog 15 #[v, .int .i64 run, .int .i64 t] w fun e w' => ∃ v', e = .returned (.tuple #[v', .int .i64 (groom xs run t).2]) ∧ Row encS 3 w' v' (groom xs run t).1 ∧ Below w.heap.size w w' := by
  have HV := Lib.hid hv
  obtain ⟨A, c, rfl, hc1, hc2, hcells⟩ := id hv
  have H := Lib.hid hcells
  clear hcells hv
  rcases idx_some xs run with h | ⟨i, x, h1, h2, h3⟩
  · have HI := Lib.hid h; clear h
    have hn : idx xs run < 0 := by rw [HI.out]; decide
    skip
    go_enter Try.func15, Try.ntmps15
    go_wp2_with (go_at_call 26; refine (refIndex_any xs _ run _ HV.out).mono ?_; rintro e w' ⟨rfl, rfl⟩)
    go_ret2
    rw [groom_none HI.out]
    exact ⟨_, rfl, Row.nil 0 (by omega) none, Below.refl _ _⟩
  · have hil : i < xs.length := (List.getElem?_eq_some_iff.1 h2).1
    obtain ⟨b, off, rfl, hbl, hcl⟩ := H.out (by omega)
    have d1 := hcl i x h2 1 _ rfl
    have d2 := hcl i x h2 2 _ rfl
    have HI := Lib.hid h1; have HX := Lib.hid h2
    obtain rfl := h3
    clear h1 h2 hcl H
    have step1 := refIndex_any xs (.slice (some ⟨b, off, none⟩) xs.length c) x.run w HV.out
    rw [HI.out] at step1
    have S1 := Lib.hid step1; clear step1
    skip
    by_cases hbad : t < x.groomed ∨ t < 0 ∨ 20000000 < t
    · go_enter Try.func15, Try.ntmps15
      go_wp2_with (go_at_call 26; refine S1.out.mono ?_; rintro e w1 ⟨rfl, rfl⟩)
      all_goals
        go_ret2
        rw [groom_bad HI.out HX.out (by omega)]
        exact ⟨_, rfl, Row.nil 0 (by omega) none, Below.refl _ _⟩
    · have hbad' := hbad
      have HB := Lib.hid hbad
      clear hbad
      go_enter Try.func15, Try.ntmps15
      go_wp2_with (first | (go_at_call 26; refine S1.out.mono ?_; rintro e w1 ⟨rfl, rfl⟩) | (go_at_call 27; refine (with_any xs _ i ⟨x.run, t, 0⟩ _ HV.out hl).mono ?_; rintro e w2 ⟨v2, rfl, ho2, hb2⟩))
      go_ret2
      rw [groom_ok HI.out HX.out (by omega)]
      exact ⟨_, rfl, ho2.row encS_len, hb2⟩

set_option maxHeartbeats 1000000 in
theorem refDescend_any (xs : List Surf) (v : Value) (run n : Int) (w : World) (hv : Row encS 3 w v xs) (hl : xs.length ≤ 1000) (hok : ∀ x ∈ xs, okS x) :
    Calls Try.prog 18 #[v, .int .i64 run, .int .i64 n] w fun e w' => ∃ v', e = .returned (.tuple #[v', .int .i64 (descend xs run n).2]) ∧ Row encS 3 w' v' (descend xs run n).1 ∧ Below w.heap.size w w' := by
  have HV := Lib.hid hv
  obtain ⟨A, c, rfl, hc1, hc2, hcells⟩ := id hv
  have H := Lib.hid hcells
  clear hcells hv
  rcases idx_some xs run with h | ⟨i, x, h1, h2, h3⟩
  · have HI := Lib.hid h; clear h
    have hn : idx xs run < 0 := by rw [HI.out]; decide
    clear hok
    go_enter Try.func18, Try.ntmps18
    go_wp2_with (go_at_call 26; refine (refIndex_any xs _ run _ HV.out).mono ?_; rintro e w' ⟨rfl, rfl⟩)
    go_ret2
    rw [descend_none HI.out]
    exact ⟨_, rfl, Row.nil 0 (by omega) none, Below.refl _ _⟩
  · have hil : i < xs.length := (List.getElem?_eq_some_iff.1 h2).1
    obtain ⟨b, off, rfl, hbl, hcl⟩ := H.out (by omega)
    have d1 := hcl i x h2 1 _ rfl
    have d2 := hcl i x h2 2 _ rfl
    have HI := Lib.hid h1; have HX := Lib.hid h2
    obtain rfl := h3
    clear h1 h2 hcl H
    have step1 := refIndex_any xs (.slice (some ⟨b, off, none⟩) xs.length c) x.run w HV.out
    rw [HI.out] at step1
    have S1 := Lib.hid step1; clear step1
    obtain ⟨_, _, _, _, ht1, ht2⟩ := hok x (List.mem_of_getElem? HX.out); clear hok
    by_cases hbad : n < 0 ∨ 10000 < n
    · go_enter Try.func18, Try.ntmps18
      go_wp2_with (go_at_call 26; refine S1.out.mono ?_; rintro e w1 ⟨rfl, rfl⟩)
      all_goals
        go_ret2
        rw [descend_bad HI.out HX.out (by omega)]
        exact ⟨_, rfl, Row.nil 0 (by omega) none, Below.refl _ _⟩
    · have hbad' := hbad
      have HB := Lib.hid hbad
      clear hbad
      go_enter Try.func18, Try.ntmps18
      go_wp2_with (go_at_call 26; refine S1.out.mono ?_; rintro e w1 ⟨rfl, rfl⟩)
      go_still_tail 17, (by kernel_rfl)
      change wpList _ _ _ _ _ w.drew
      have HV2 := Lib.hid (HV.out.below (Below.refl _ _).drew)
      have hbw : Below w.heap.size w w.drew := (Below.refl _ _).drew
      have e1 := d1
      have e2 := d2
      change w.drew.cell? _ = _ at e1 e2
      clear HV d1 d2
      generalize w.drew = w2 at *
      go_wp2_with ((go_at_call 27; refine (with_any xs _ i ⟨x.run, x.groomed, capT (x.traffic + n)⟩ _ HV2.out hl).mono ?_; rintro e w3 ⟨v2, rfl, ho2, hb2⟩))
      go_ret2
      rw [descend_ok HI.out HX.out (by omega)]
      exact ⟨_, rfl, ho2.row encS_len, Below.step hbw hb2⟩
end Go.Proofs.Ytgjcoebfiangcaa.Old
