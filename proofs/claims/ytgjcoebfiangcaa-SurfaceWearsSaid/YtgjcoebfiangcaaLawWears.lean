/- SurfaceWears: quality never rises but by grooming, for every surface that is right, any times and any number of descents. No condition. -/
import Derived.Test.YtgjcoebfiangcaaArgs
import Derived.Test.YtgjcoebfiangcaaLaw2
namespace Go.Proofs.Ytgjcoebfiangcaa.lawWears
open Go.ChangeShapes Go.WideShapes Go.ChangeAt Go.RowKit
set_option linter.unusedVariables false

set_option maxHeartbeats 4000000 in
theorem walk (x : Surf) (t u n : Int) (w : World) (hwf : wfS x) (ht : (Lit.int .i64 t).wf = true) (hu : (Lit.int .i64 u).wf = true) (hn : (Lit.int .i64 n).wf = true) :
    Calls Try.prog 8 #[.agg #[.int .i64 x.run, .int .i64 x.groomed, .int .i64 x.traffic], .int .i64 t, .int .i64 u, .int .i64 n] w fun e w' => e = .returned (.bool true) ∧ Below w.heap.size w w' := by
  clear hwf hn
  have ht2 : t ≤ 9223372036854775807 := (bounds_i64 ht).2
  have hu2 : u ≤ 9223372036854775807 := (bounds_i64 hu).2
  clear ht hu
  have b0 : Below w.heap.size w (w.alloc (.cells #[.int .i64 x.run, .int .i64 x.groomed, .int .i64 x.traffic] 32)) := (Below.refl _ w).alloc (Nat.le_refl _) _
  have al := Lib.hid (alive_any (w.alloc (.cells #[.int .i64 x.run, .int .i64 x.groomed, .int .i64 x.traffic] 32)))
  have rx := Lib.hid fun W : World => right_any [x] (.slice (some ⟨W.heap.size, 0, none⟩) 1 1) (W.alloc (.cells #[.int .i64 x.run, .int .i64 x.groomed, .int .i64 x.traffic] 32)) (row_lit_at encS_len W 32 W.heap.size [x] (by simp) rfl)
  have rw1 := Lib.hid fun W : World => row_lit_at encS_len W 32 W.heap.size [x] (by simp) rfl
  have head : ∀ w1 : World, Below (w.heap.size + 1) (w.alloc (.cells #[.int .i64 x.run, .int .i64 x.groomed, .int .i64 x.traffic] 32)) w1 → w.heap.size < w1.heap.size ∧ w1.cell? ⟨w.heap.size, 0, none⟩ = some (.int .i64 x.run) ∧ w1.cell? ⟨w.heap.size, 1, none⟩ = some (.int .i64 x.groomed) ∧ w1.cell? ⟨w.heap.size, 2, none⟩ = some (.int .i64 x.traffic) := by
    intro w1 b1
    have hz := b1.size
    exact ⟨by simp at hz; omega, (b1.cell (p := ⟨w.heap.size, 0, none⟩) (by simp)).trans (by simp), (b1.cell (p := ⟨w.heap.size, 1, none⟩) (by simp)).trans (by simp), (b1.cell (p := ⟨w.heap.size, 2, none⟩) (by simp)).trans (by simp)⟩
  have HD := Lib.hid head; clear head
  by_cases hr : right [x] = 0
  · have hok := (right_ok hr).2.1 x (by simp)
    simp only [hr] at rx
    by_cases htu : u < t
    · clear hr hok
      go_enter Try.func8, Try.ntmps8
      go_wp2_with (first | (go_at_call 11; refine al.out.mono ?_; rintro e w1 ⟨rfl, b1⟩; obtain ⟨hz, c0, c1, c2⟩ := HD.out w1 (by simpa using b1)) | (go_at_call 12; refine Calls.mono (rx.out _) ?_; rintro e w2 ⟨rfl, b2⟩))
      go_ret
      exact ⟨rfl, Below.step b0 (Below.step b1 (((Below.refl _ _).alloc (Nat.le_refl _) _).trans (b2.mono (by simp))))⟩
    · have hq0 := quality_ge x t
      have hq1 := quality_le x t hok
      have hmo : x.groomed ≤ t → quality x u ≤ quality x t := fun h => quality_mono hok h (by omega)
      have q1 := Lib.hid fun W => quality_any x t W hok ht2
      have q2 := Lib.hid fun W => quality_any x u W hok hu2
      have hD := descend_one hok n t
      have hG := groom_one hok t
      have dd := Lib.hid fun (v : Value) (W : World) h => descend_any [x] v x.run n W h (by simp) (fun y hy => by simp at hy; subst hy; exact hok)
      have gg := Lib.hid fun (v : Value) (W : World) h => groom_any [x] v x.run t W h (by simp)
      have HOK := Lib.hid hok
      clear hr hok
      generalize quality x t = q at *
      generalize quality x u = qu at *
      have HM := Lib.hid hmo; have HG := Lib.hid hG; have HDD := Lib.hid hD
      clear hmo hG hD
      go_enter Try.func8, Try.ntmps8
      go_wp2_with fail
      refine al.out.mono ?_
      rintro e w1 ⟨rfl, b1⟩
      obtain ⟨hz, c0, c1, c2⟩ := HD.out w1 (by simpa using b1)
      go_wp2_with fail
      refine Calls.mono (rx.out _) ?_
      rintro e w2 ⟨rfl, b2'⟩
      have b2 : Below w1.heap.size w1 w2 := ((Below.refl _ _).alloc (Nat.le_refl _) _).trans (b2'.mono (by simp))
      have r2 := Lib.hid ((rw1.out w1).below b2')
      have hz2 : w.heap.size < w2.heap.size := Nat.lt_of_lt_of_le hz b2.size
      replace c0 := (b2.cell (p := ⟨w.heap.size, 0, none⟩) hz).trans c0
      replace c1 := (b2.cell (p := ⟨w.heap.size, 1, none⟩) hz).trans c1
      replace c2 := (b2.cell (p := ⟨w.heap.size, 2, none⟩) hz).trans c2
      have B2 := Below.step b0 (Below.step b1 b2)
      clear b2' b2 b1 b0 hz al rx rw1 HD
      generalize w1.heap.size = g1 at *
      go_wp2_with fail
      refine (q1.out _).mono ?_
      rintro e w3 ⟨rfl, hw3⟩
      have b3 : Below w2.heap.size w2 w3 := by subst hw3; exact (Below.refl _ _).alloc (Nat.le_refl _) _
      have r3 := Lib.hid (r2.out.below b3)
      have hz3 : w.heap.size < w3.heap.size := Nat.lt_of_lt_of_le hz2 b3.size
      replace c0 := (b3.cell (p := ⟨w.heap.size, 0, none⟩) hz2).trans c0
      replace c1 := (b3.cell (p := ⟨w.heap.size, 1, none⟩) hz2).trans c1
      replace c2 := (b3.cell (p := ⟨w.heap.size, 2, none⟩) hz2).trans c2
      have B3 := Below.step B2 b3
      clear hw3 b3 B2 r2 hz2
      have fin : ∀ w4 : World, Below w3.heap.size w3 w4 → Hid (w.heap.size < w4.heap.size ∧ w4.cell? ⟨w.heap.size, 0, none⟩ = some (.int .i64 x.run) ∧ w4.cell? ⟨w.heap.size, 1, none⟩ = some (.int .i64 x.groomed) ∧ w4.cell? ⟨w.heap.size, 2, none⟩ = some (.int .i64 x.traffic) ∧ Row encS 3 w4 (.slice (some ⟨g1, 0, none⟩) 1 1) [x] ∧ Below w.heap.size w w4) := fun w4 b4 =>
        Lib.hid ⟨Nat.lt_of_lt_of_le hz3 b4.size, (b4.cell (p := ⟨w.heap.size, 0, none⟩) hz3).trans c0, (b4.cell (p := ⟨w.heap.size, 1, none⟩) hz3).trans c1, (b4.cell (p := ⟨w.heap.size, 2, none⟩) hz3).trans c2, r3.out.below b4, Below.step B3 b4⟩
      have FIN := Lib.hid fin; clear fin
      by_cases hgt : x.groomed ≤ t
      · have hmo := HM.out hgt
        go_wp2_with (go_at_call 19; refine (q2.out _).mono ?_; rintro e w4 ⟨rfl, hw4⟩; have b4 : Below w3.heap.size w3 w4 := (by subst hw4; exact (Below.refl _ _).alloc (Nat.le_refl _) _); obtain ⟨hz4, d0, d1, d2, r4, B4⟩ := (FIN.out w4 b4).out; have R4 := Lib.hid r4; clear hw4 b4 r4)
        have s5 := dd.out (.slice (some ⟨g1, 0, none⟩) 1 1) w4 R4.out
        rcases HDD.out with ⟨_, er, hde, rfl⟩ | ⟨y, hde, hyo, hyq⟩
        · rw [hde] at s5
          refine s5.mono ?_
          rintro e w5 ⟨v5, rfl, r5, b5⟩
          obtain ⟨A5, c5, rfl, _, _, _⟩ := r5
          replace d0 := (b5.cell (p := ⟨w.heap.size, 0, none⟩) hz4).trans d0
          replace R4 := Lib.hid (R4.out.below b5)
          have B5 := Below.step B4 b5
          clear s5 hde b5 B4
          go_wp2_with fail
          have s7 := gg.out (.slice (some ⟨g1, 0, none⟩) 1 1) w5 R4.out
          rcases HG.out with hge | ⟨z, hge, hzo, hzq⟩
          · rw [hge] at s7
            refine s7.mono ?_
            rintro e w8 ⟨v8, rfl, r8, b8⟩
            obtain ⟨A8, c8, rfl, _, _, _⟩ := r8
            clear s7 hge
            go_wp2
            go_ret
            exact ⟨rfl, Below.step B5 b8⟩
          · rw [hge] at s7
            refine s7.mono ?_
            rintro e w8 ⟨v8, rfl, r8, b8⟩
            obtain ⟨A8, c8, rfl, _, _, hc8⟩ := r8
            obtain ⟨bz, oz, rfl, _, hcz⟩ := hc8 (by simp)
            have z0 := hcz 0 z rfl 0 _ rfl
            have z1 := hcz 0 z rfl 1 _ rfl
            have z2 := hcz 0 z rfl 2 _ rfl
            simp only [Nat.zero_mul, Nat.add_zero] at z0 z1 z2
            have q8 := quality_any z t w8 hzo ht2
            rw [hzq] at q8
            have Q8 := Lib.hid q8
            clear s7 hge hcz hc8 q8
            go_wp2_with (go_at_call 19; refine Q8.out.mono ?_; rintro e w9 ⟨rfl, rfl⟩)
            go_ret
            exact ⟨by simp, Below.step B5 (Below.step b8 ((Below.refl _ _).alloc (Nat.le_refl _) _))⟩
        · rw [hde] at s5
          refine s5.mono ?_
          rintro e w5 ⟨v5, rfl, r5, b5⟩
          obtain ⟨A5, c5, rfl, _, _, hc5⟩ := r5
          obtain ⟨by5, oy, rfl, _, hcy⟩ := hc5 (by simp)
          have y0 := hcy 0 y rfl 0 _ rfl
          have y1 := hcy 0 y rfl 1 _ rfl
          have y2 := hcy 0 y rfl 2 _ rfl
          simp only [Nat.zero_mul, Nat.add_zero] at y0 y1 y2
          have q6 := quality_any y t w5 hyo ht2
          have Q6 := Lib.hid q6
          replace d0 := (b5.cell (p := ⟨w.heap.size, 0, none⟩) hz4).trans d0
          replace R4 := Lib.hid (R4.out.below b5)
          have hz5 : w.heap.size < w5.heap.size := Nat.lt_of_lt_of_le hz4 b5.size
          have B5 := Below.step B4 b5
          clear s5 hde b5 B4 hcy hc5 q6
          generalize quality y t = qy at *
          go_wp2_with fail
          refine Q6.out.mono ?_
          rintro e w6 ⟨rfl, hw6⟩
          have b6 : Below w5.heap.size w5 w6 := by subst hw6; exact (Below.refl _ _).alloc (Nat.le_refl _) _
          replace d0 := (b6.cell (p := ⟨w.heap.size, 0, none⟩) hz5).trans d0
          replace R4 := Lib.hid (R4.out.below b6)
          have B6 := Below.step B5 b6
          clear hw6 b6 B5 Q6
          go_wp2_with fail
          have s7 := gg.out (.slice (some ⟨g1, 0, none⟩) 1 1) w6 R4.out
          rcases HG.out with hge | ⟨z, hge, hzo, hzq⟩
          · rw [hge] at s7
            refine s7.mono ?_
            rintro e w8 ⟨v8, rfl, r8, b8⟩
            obtain ⟨A8, c8, rfl, _, _, _⟩ := r8
            clear s7 hge
            go_wp2
            go_ret
            exact ⟨rfl, Below.step B6 b8⟩
          · rw [hge] at s7
            refine s7.mono ?_
            rintro e w8 ⟨v8, rfl, r8, b8⟩
            obtain ⟨A8, c8, rfl, _, _, hc8⟩ := r8
            obtain ⟨bz, oz, rfl, _, hcz⟩ := hc8 (by simp)
            have z0 := hcz 0 z rfl 0 _ rfl
            have z1 := hcz 0 z rfl 1 _ rfl
            have z2 := hcz 0 z rfl 2 _ rfl
            simp only [Nat.zero_mul, Nat.add_zero] at z0 z1 z2
            have q8 := quality_any z t w8 hzo ht2
            rw [hzq] at q8
            have Q8 := Lib.hid q8
            clear s7 hge hcz hc8 q8
            go_wp2_with (go_at_call 19; refine Q8.out.mono ?_; rintro e w9 ⟨rfl, rfl⟩)
            go_ret
            exact ⟨by simp, Below.step B6 (Below.step b8 ((Below.refl _ _).alloc (Nat.le_refl _) _))⟩

      · obtain ⟨hz4, d0, d1, d2, r4, B4⟩ := (FIN.out w3 (Below.refl _ _)).out
        have R4 := Lib.hid r4; clear r4
        obtain ⟨w4, hw4⟩ : ∃ w4, w4 = w3 := ⟨_, rfl⟩
        subst hw4
        clear FIN
        go_wp2_with fail
        have s5 := dd.out (.slice (some ⟨g1, 0, none⟩) 1 1) w4 R4.out
        rcases HDD.out with ⟨_, er, hde, rfl⟩ | ⟨y, hde, hyo, hyq⟩
        · rw [hde] at s5
          refine s5.mono ?_
          rintro e w5 ⟨v5, rfl, r5, b5⟩
          obtain ⟨A5, c5, rfl, _, _, _⟩ := r5
          replace d0 := (b5.cell (p := ⟨w.heap.size, 0, none⟩) hz4).trans d0
          replace R4 := Lib.hid (R4.out.below b5)
          have B5 := Below.step B4 b5
          clear s5 hde b5 B4
          go_wp2_with fail
          have s7 := gg.out (.slice (some ⟨g1, 0, none⟩) 1 1) w5 R4.out
          rcases HG.out with hge | ⟨z, hge, hzo, hzq⟩
          · rw [hge] at s7
            refine s7.mono ?_
            rintro e w8 ⟨v8, rfl, r8, b8⟩
            obtain ⟨A8, c8, rfl, _, _, _⟩ := r8
            clear s7 hge
            go_wp2
            go_ret
            exact ⟨rfl, Below.step B5 b8⟩
          · rw [hge] at s7
            refine s7.mono ?_
            rintro e w8 ⟨v8, rfl, r8, b8⟩
            obtain ⟨A8, c8, rfl, _, _, hc8⟩ := r8
            obtain ⟨bz, oz, rfl, _, hcz⟩ := hc8 (by simp)
            have z0 := hcz 0 z rfl 0 _ rfl
            have z1 := hcz 0 z rfl 1 _ rfl
            have z2 := hcz 0 z rfl 2 _ rfl
            simp only [Nat.zero_mul, Nat.add_zero] at z0 z1 z2
            have q8 := quality_any z t w8 hzo ht2
            rw [hzq] at q8
            have Q8 := Lib.hid q8
            clear s7 hge hcz hc8 q8
            go_wp2_with (go_at_call 19; refine Q8.out.mono ?_; rintro e w9 ⟨rfl, rfl⟩)
            go_ret
            exact ⟨by simp, Below.step B5 (Below.step b8 ((Below.refl _ _).alloc (Nat.le_refl _) _))⟩
        · rw [hde] at s5
          refine s5.mono ?_
          rintro e w5 ⟨v5, rfl, r5, b5⟩
          obtain ⟨A5, c5, rfl, _, _, hc5⟩ := r5
          obtain ⟨by5, oy, rfl, _, hcy⟩ := hc5 (by simp)
          have y0 := hcy 0 y rfl 0 _ rfl
          have y1 := hcy 0 y rfl 1 _ rfl
          have y2 := hcy 0 y rfl 2 _ rfl
          simp only [Nat.zero_mul, Nat.add_zero] at y0 y1 y2
          have q6 := quality_any y t w5 hyo ht2
          have Q6 := Lib.hid q6
          replace d0 := (b5.cell (p := ⟨w.heap.size, 0, none⟩) hz4).trans d0
          replace R4 := Lib.hid (R4.out.below b5)
          have hz5 : w.heap.size < w5.heap.size := Nat.lt_of_lt_of_le hz4 b5.size
          have B5 := Below.step B4 b5
          clear s5 hde b5 B4 hcy hc5 q6
          generalize quality y t = qy at *
          go_wp2_with fail
          refine Q6.out.mono ?_
          rintro e w6 ⟨rfl, hw6⟩
          have b6 : Below w5.heap.size w5 w6 := by subst hw6; exact (Below.refl _ _).alloc (Nat.le_refl _) _
          replace d0 := (b6.cell (p := ⟨w.heap.size, 0, none⟩) hz5).trans d0
          replace R4 := Lib.hid (R4.out.below b6)
          have B6 := Below.step B5 b6
          clear hw6 b6 B5 Q6
          go_wp2_with fail
          have s7 := gg.out (.slice (some ⟨g1, 0, none⟩) 1 1) w6 R4.out
          rcases HG.out with hge | ⟨z, hge, hzo, hzq⟩
          · rw [hge] at s7
            refine s7.mono ?_
            rintro e w8 ⟨v8, rfl, r8, b8⟩
            obtain ⟨A8, c8, rfl, _, _, _⟩ := r8
            clear s7 hge
            go_wp2
            go_ret
            exact ⟨rfl, Below.step B6 b8⟩
          · rw [hge] at s7
            refine s7.mono ?_
            rintro e w8 ⟨v8, rfl, r8, b8⟩
            obtain ⟨A8, c8, rfl, _, _, hc8⟩ := r8
            obtain ⟨bz, oz, rfl, _, hcz⟩ := hc8 (by simp)
            have z0 := hcz 0 z rfl 0 _ rfl
            have z1 := hcz 0 z rfl 1 _ rfl
            have z2 := hcz 0 z rfl 2 _ rfl
            simp only [Nat.zero_mul, Nat.add_zero] at z0 z1 z2
            have q8 := quality_any z t w8 hzo ht2
            rw [hzq] at q8
            have Q8 := Lib.hid q8
            clear s7 hge hcz hc8 q8
            go_wp2_with (go_at_call 19; refine Q8.out.mono ?_; rintro e w9 ⟨rfl, rfl⟩)
            go_ret
            exact ⟨by simp, Below.step B6 (Below.step b8 ((Below.refl _ _).alloc (Nat.le_refl _) _))⟩

  · have h2 := right_one x hr
    simp only [h2] at rx
    clear hr h2
    go_enter Try.func8, Try.ntmps8
    go_wp2_with (first | (go_at_call 11; refine al.out.mono ?_; rintro e w1 ⟨rfl, b1⟩; obtain ⟨hz, c0, c1, c2⟩ := HD.out w1 (by simpa using b1)) | (go_at_call 12; refine Calls.mono (rx.out _) ?_; rintro e w2 ⟨rfl, b2⟩))
    go_ret
    exact ⟨rfl, Below.step b0 (Below.step b1 (((Below.refl _ _).alloc (Nat.le_refl _) _).trans (b2.mono (by simp))))⟩

/-! ### THE ROW's STEP -/
theorem own : ownKnob Try.prog.godebug = none := by kernel_rfl
theorem laidOut : laidOutB Try.prog = true := by kernel_rfl
set_option maxRecDepth 100000 in
theorem lifted (os : Os) (started : os.Started) (H : Type) (enc : TypeId × Value → H) :
    ReturnsInHanded {} Try.checked os 8 .any (Rows.surfaceWearsSpec.pre6 enc Try.prog Try.f8 Rows.surfaceWearsRow.domain false) (Rows.surfaceWearsSpec.post enc Try.prog Try.f8 false true false false) := by
  refine returnsInHanded_of_change (C := Try.checked) own started (by kernel_rfl) Try.func8
    (ChangeSpec.witness6 (enc := enc) (C := Try.checked) false ⟨#[], #[.agg #[.int .i64 0, .int .i64 0, .int .i64 0], .int .i64 0, .int .i64 0, .int .i64 0], []⟩ 8 (by kernel_rfl) (by kernel_rfl) (by kernel_rfl) (by kernel_rfl)) ?_
  intro W base args ds gs before hval0 hW hcnd _
  have hval : ∀ (j : Nat) t v, Try.f8.params[j]? = some t → args[j]? = some v → Value.okWide Try.prog W .any base t v := hval0
  have hW' := hW
  obtain ⟨p, q, hA0, hV, rfl, hfz, hnd⟩ := hW
  have hA : DataW.TrodAll enc Try.prog W 0 (fun _ => true) true Try.f8.params.toList args.toList ds p := hA0
  rw [Try.params8] at hA hval
  obtain ⟨v0, vs0, d0, ds0, p0, q0, hargs, rfl, rfl, h0, r0⟩ := trodAll_cons hA
  obtain ⟨v1, vs1, d1, ds1, p1, q1, rfl, rfl, rfl, h1, r1⟩ := trodAll_cons r0
  obtain ⟨v2, vs2, d2, ds2, p2, q2, rfl, rfl, rfl, h2, r2⟩ := trodAll_cons r1
  obtain ⟨v3, vs3, d3, ds3, p3, q3, rfl, rfl, rfl, h3, r3⟩ := trodAll_cons r2
  obtain ⟨rfl, rfl, rfl⟩ := trodAll_nil r3
  obtain rfl : args = #[v0, v1, v2, v3] := by cases args; simp_all
  obtain ⟨rfl, rfl⟩ := trodVars_none hV
  have k0 := h0
  have lt0 : ∀ x ∈ p0, x.block < W.heap.size := by obtain ⟨m, hm⟩ := k0; exact DataW.trod_lt m _ _ _ hm
  obtain ⟨z0, e0, w0⟩ := openA (hval 0 32 v0 rfl rfl) h0
  subst e0
  have k1 := h1
  have lt1 : ∀ x ∈ p1, x.block < W.heap.size := by obtain ⟨m, hm⟩ := k1; exact DataW.trod_lt m _ _ _ hm
  obtain ⟨a1, rfl, rfl, rfl, w1⟩ := open_int Try.underlying3 (hval 1 3 v1 rfl rfl) h1
  have k2 := h2
  have lt2 : ∀ x ∈ p2, x.block < W.heap.size := by obtain ⟨m, hm⟩ := k2; exact DataW.trod_lt m _ _ _ hm
  obtain ⟨a2, rfl, rfl, rfl, w2⟩ := open_int Try.underlying3 (hval 2 3 v2 rfl rfl) h2
  have k3 := h3
  have lt3 : ∀ x ∈ p3, x.block < W.heap.size := by obtain ⟨m, hm⟩ := k3; exact DataW.trod_lt m _ _ _ hm
  obtain ⟨a3, rfl, rfl, rfl, w3⟩ := open_int Try.underlying3 (hval 3 3 v3 rfl rfl) h3
  clear hA0 hval0
  refine (walk z0 a1 a2 a3 W w0 w1 w2 w3).mono fun e W' ⟨he, bel⟩ => ?_
  subst he
  exact ⟨_, rfl, _, _, _, [], _, [], hW', trodAll_mk1 (shut_bool Try.underlying4 _), (trodAll_cons_mk (Below.trod laidOut (by kernel_rfl) (of_decide_eq_true (by kernel_rfl)) k0 bel lt0) (trodAll_cons_mk (Below.trod laidOut (by kernel_rfl) (of_decide_eq_true (by kernel_rfl)) k1 bel lt1) (trodAll_cons_mk (Below.trod laidOut (by kernel_rfl) (of_decide_eq_true (by kernel_rfl)) k2 bel lt2) (trodAll_cons_mk (Below.trod laidOut (by kernel_rfl) (of_decide_eq_true (by kernel_rfl)) k3 bel lt3) trodAll_mk0)))), rfl, bel.frame _, fun h => by cases h⟩

theorem over : Rows.surfaceWearsRow.holds Try.pinned (OpenSpec.ofChange Rows.surfaceWearsSpec) :=
  OpenClaim.holds_of_wide 8 Try.f8 rfl rfl rfl rfl rfl rfl rfl ⟨rfl, rfl, rfl, rfl, rfl⟩ rfl rfl rfl rfl rfl (by kernel_rfl) Try.func8 (by kernel_rfl)
    (of_decide_eq_true (by kernel_rfl)) (by unfold Func.isWrapper; first | (rw [if_pos (by decide +kernel)]; kernel_rfl) | (rw [if_neg (by decide +kernel)]; exact ⟨rfl, rfl⟩))
    (fun os started H enc _ => lifted os started H enc)

theorem proved : Rows.SurfaceWearsSaid := over
end Go.Proofs.Ytgjcoebfiangcaa.lawWears
