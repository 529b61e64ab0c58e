/- slices.Clone, surface.Groom and surface.Descend: what they return. -/
import Derived.Test.YtgjcoebfiangcaaZIdx
namespace Go.Proofs.Ytgjcoebfiangcaa.Old
open Go.RowKit

theorem infoS : (Try.prog.info? 32).map (fun i => (i.zero, i.size, i.bytes)) = some (some (.agg #[.int .i64 0, .int .i64 0, .int .i64 0]), 3, 24) := by kernel_rfl
theorem encS_one (xs : List Surf) : ∀ u ∈ xs.flatMap encS, u.oneCell' = true := by
  intro u hu
  obtain ⟨x, _, hx⟩ := List.mem_flatMap.1 hu
  simp [encS] at hx
  rcases hx with rfl | rfl | rfl <;> rfl

set_option maxHeartbeats 400000 in
theorem clone_any (xs : List Surf) (v : Value) (w : World) (hv : Row encS 3 w v xs) (hl : xs.length ≤ 1000) :
    Calls Try.prog 25 #[v] w fun e w' => ∃ v', e = .returned v' ∧ Own encS 3 32 w.heap.size w' v' xs ∧ Below w.heap.size w w' := by
  obtain ⟨i0, hi, hz0, hz1, hz2⟩ := info_parts infoS
  obtain ⟨A, c, hvv, hc1, hc2, hcells⟩ := id hv
  subst hvv
  cases A with
  | none =>
    have h0 : xs = [] := by
      rcases xs with _ | ⟨x, r⟩
      · rfl
      · obtain ⟨b, off, h, _⟩ := hcells (by simp); cases h
    subst h0
    have heq := fun w => Lib.run_eql_slice_nil (P := Try.prog) w 22 32 none 0 c 0 0 Try.underlying22
    clear hcells hv
    show Calls Try.prog 25 #[.slice none 0 c] w _
    go_enter Try.func25, Try.ntmps25
    go_wp2
    go_ret
    exact ⟨_, rfl, World.ownsRow_nil _ _ _ _, Below.refl _ _⟩
  | some a =>
    have heq := fun w => Lib.run_eql_slice_nil (P := Try.prog) w 22 32 (some a) xs.length c 0 0 Try.underlying22
    obtain ⟨_, hr⟩ := (hv.below ((Below.refl _ w).alloc (Nat.le_refl _) (.cells #[] 32))).reads encS_len
    have hown := World.ownsRow_lit (base := w.heap.size) (e := 32) (size := 3) w #[] 0 (Nat.le_refl _) (by decide) rfl
    have HR := Lib.hid hr
    have HO := Lib.hid hown
    have h1 := Lib.hid (encS_one xs)
    clear hcells hr hv hown
    go_enter Try.func25, Try.ntmps25
    go_wp2_with (at_builtin; refine wpList_append_any _ rfl _ _ 22 rfl w.heap.size 32 i0 _ 3 24 Try.underlying22 hi hz0 hz1 hz2 rfl (by decide) _ 0 _ rfl HO.out _ _ xs.length c _ rfl HR.out h1.out (by unfold maxLen; omega) (by omega) (by simp) ?_; intro v' w1 hown' hgrow _)
    go_ret
    exact ⟨_, rfl, by simpa [Own] using hown', ((Below.refl _ w).alloc (Nat.le_refl _) _).grown hgrow (by simp) (fun k hk => (HO.out.lt k hk).1)⟩

set_option maxHeartbeats 1000000 in
theorem groom_any (xs : List Surf) (v : Value) (run t : Int) (w : World) (hv : Row encS 3 w v xs) (hl : xs.length ≤ 1000) :
    Calls Try.prog 14 #[v, .int .i64 run, .int .i64 t] w fun e w' => ∃ v', e = .returned (.tuple #[v', .int .i64 (groom xs run t).2]) ∧ Row encS 3 w' v' (groom xs run t).1 ∧ Below w.heap.size w w' := by
  have HV := Lib.hid hv
  obtain ⟨A, c, rfl, hc1, hc2, hcells⟩ := id hv
  have H := Lib.hid hcells
  clear hcells hv
  rcases idx_some xs run with h | ⟨i, x, h1, h2, h3⟩
  · have HI := Lib.hid h; clear h
    have hn : idx xs run < 0 := by rw [HI.out]; decide
    go_enter Try.func14, Try.ntmps14
    go_wp2_with (go_at_call 24; refine (find_any xs _ run _ HV.out).mono ?_; rintro e w' ⟨rfl, hb'⟩)
    go_ret2
    rw [groom_none HI.out]
    exact ⟨_, rfl, Row.nil 0 (by omega) none, hb'⟩
  · have hil : i < xs.length := (List.getElem?_eq_some_iff.1 h2).1
    obtain ⟨b, off, rfl, hbl, hcl⟩ := H.out (by omega)
    have HC := Lib.hid hcl
    have HI := Lib.hid h1; have HX := Lib.hid h2; have H3 := Lib.hid h3
    clear h1 h2 h3 hcl H
    have step1 := find_any xs (.slice (some ⟨b, off, none⟩) xs.length c) run w HV.out
    rw [HI.out] at step1
    have S1 := Lib.hid step1; clear step1
    by_cases hbad : t < x.groomed ∨ 20000000 < t ∨ t < 0
    · go_enter Try.func14, Try.ntmps14
      go_wp2_with (go_at_call 24; refine S1.out.mono ?_; rintro e w1 ⟨rfl, hb1⟩; have c1 := (hb1.cell (p := ⟨b, _, none⟩) hbl).trans (HC.out i x HX.out 1 _ rfl))
      all_goals
        go_ret2
        rw [groom_bad HI.out HX.out hbad]
        exact ⟨_, rfl, Row.nil 0 (by omega) none, hb1⟩
    · have hbad' := hbad
      have HB := Lib.hid hbad
      clear hbad
      go_enter Try.func14, Try.ntmps14
      go_wp2_with (first | (go_at_call 24; refine S1.out.mono ?_; rintro e w1 ⟨rfl, hb1⟩; have c1 := (hb1.cell (p := ⟨b, _, none⟩) hbl).trans (HC.out i x HX.out 1 _ rfl)) | (go_at_call 25; refine (clone_any xs _ _ (HV.out.below hb1) hl).mono ?_; rintro e w2 ⟨v2, rfl, ho2, hb2⟩; obtain ⟨g, cap, rfl, hg1, hg2, hg3, hg4⟩ := ho2.form (by omega); have d1 := ho2.cellAt encS_len HX.out (j := 1) rfl; have d2 := ho2.cellAt encS_len HX.out (j := 2) rfl; have f1 := ho2.frozenAt (i * 3 + 1); have f2 := ho2.frozenAt (i * 3 + 2); have HO := Lib.hid ho2; clear ho2))
      go_ret2
      rw [groom_ok HI.out HX.out HB.out]
      have o1 := HO.out.stored encS_len HX.out (j := 1) (y := ⟨x.run, t, x.traffic⟩) (u := .int .i64 t) (by omega) rfl
      have o2 := o1.stored encS_len (i := i) (j := 2) (x := ⟨x.run, t, x.traffic⟩) (y := ⟨x.run, t, 0⟩) (u := .int .i64 0) (by simp [hil]) (by omega) rfl
      rw [List.set_set] at o2
      have hz := hb1.size
      exact ⟨_, rfl, o2.row encS_len, ((Below.step hb1 hb2).setCell (p := ⟨g, _, none⟩) (by show _ ≤ g; omega) _).setCell (p := ⟨g, _, none⟩) (by show _ ≤ g; omega) _⟩

set_option maxHeartbeats 1000000 in
theorem descend_any (xs : List Surf) (v : Value) (run n : Int) (w : World) (hv : Row encS 3 w v xs) (hl : xs.length ≤ 1000) (hok : ∀ x ∈ xs, okS x) :
    Calls Try.prog 17 #[v, .int .i64 run, .int .i64 n] w fun e w' => ∃ v', e = .returned (.tuple #[v', .int .i64 (descend xs run n).2]) ∧ Row encS 3 w' v' (descend xs run n).1 ∧ Below w.heap.size w w' := by
  have HV := Lib.hid hv
  obtain ⟨A, c, rfl, hc1, hc2, hcells⟩ := id hv
  have H := Lib.hid hcells
  clear hcells hv
  rcases idx_some xs run with h | ⟨i, x, h1, h2, h3⟩
  · have HI := Lib.hid h; clear h
    clear hok
    have hn : idx xs run < 0 := by rw [HI.out]; decide
    go_enter Try.func17, Try.ntmps17
    go_wp2_with (go_at_call 24; refine (find_any xs _ run _ HV.out).mono ?_; rintro e w' ⟨rfl, hb'⟩)
    go_ret2
    rw [descend_none HI.out]
    exact ⟨_, rfl, Row.nil 0 (by omega) none, hb'⟩
  · have hil : i < xs.length := (List.getElem?_eq_some_iff.1 h2).1
    obtain ⟨b, off, rfl, hbl, hcl⟩ := H.out (by omega)
    have HC := Lib.hid hcl
    have HI := Lib.hid h1; have HX := Lib.hid h2; have H3 := Lib.hid h3
    clear h1 h2 h3 hcl H
    have step1 := find_any xs (.slice (some ⟨b, off, none⟩) xs.length c) run w HV.out
    rw [HI.out] at step1
    have S1 := Lib.hid step1; clear step1
    by_cases hbad : n < 0 ∨ 10000 < n
    · clear hok
      go_enter Try.func17, Try.ntmps17
      go_wp2_with (go_at_call 24; refine S1.out.mono ?_; rintro e w1 ⟨rfl, hb1⟩)
      all_goals
        go_ret2
        rw [descend_bad HI.out HX.out hbad]
        exact ⟨_, rfl, Row.nil 0 (by omega) none, hb1⟩
    · have hbad' := hbad
      have HB := Lib.hid hbad
      have ht1 : 0 ≤ x.traffic := (hok x (List.mem_of_getElem? HX.out)).2.2.2.2.1
      have ht2 : x.traffic ≤ 1000000 := (hok x (List.mem_of_getElem? HX.out)).2.2.2.2.2
      clear hbad hok
      go_enter Try.func17, Try.ntmps17
      go_wp2_with (first | (go_at_call 24; refine S1.out.mono ?_; rintro e w1 ⟨rfl, hb1⟩) | (go_at_call 25; refine (clone_any xs _ _ (HV.out.below hb1) hl).mono ?_; rintro e w2 ⟨v2, rfl, ho2, hb2⟩; obtain ⟨g, cap, rfl, hg1, hg2, hg3, hg4⟩ := ho2.form (by omega); have d2 := ho2.cellAt encS_len HX.out (j := 2) rfl; have f2 := ho2.frozenAt (i * 3 + 2); have HO := Lib.hid ho2; clear ho2))
      all_goals
        go_ret2
        rw [descend_ok HI.out HX.out HB.out]
        have o1 := HO.out.stored encS_len HX.out (j := 2) (y := ⟨x.run, x.groomed, capT (x.traffic + n)⟩) (u := .int .i64 (capT (x.traffic + n))) (by omega) rfl
        have hz := hb1.size
        exact ⟨_, rfl, o1.row encS_len, (Below.step hb1 hb2).setCell (p := ⟨g, _, none⟩) (by show _ ≤ g; omega) _⟩
end Go.Proofs.Ytgjcoebfiangcaa.Old
