/- NettingApart: positions can be settled separately. No condition. -/
import Derived.Test.YtdkkblcninogdaaArg
import Derived.Test.YtdkkblcninogdaaPC
namespace Go.Proofs.Ytdkkblcninogdaa.lawApart
open Go.ChangeShapes Go.WideShapes Go.ChangeAt Go.RowKit Go.Deep Go.Joins
set_option linter.unusedVariables false
theorem u8_of {n : Int} (h : (Lit.int .u8 n).wf = true) : 0 ≤ n ∧ n ≤ 255 := by
  simp [Lit.wf, IntKind.min, IntKind.max, IntKind.signed, IntKind.bits] at h
  omega

/-! skiarea/skiarealaw37.NettingApart -/
def lawIr : IFn := ⟨59, [.tmp 4],
  (.seq (.ops [
    ⟨(some 4), .mov, [.const (.bool false)], none⟩] false)
  (.seq (.seq (.ops [
    ⟨(some 9), .call 10, [], none⟩,
    ⟨(some 10), .not, [.tmp 9], none⟩] false)
  (.cond (.tmp 10)
    (.seq (.ops [
      ⟨(some 4), .mov, [.const (.bool false)], none⟩] false)
    .ret)
    .skip))
  (.seq (.seq (.ops [
    ⟨(some 11), .mov, [.tmp 0], none⟩,
    ⟨(some 12), .len, [.tmp 11], none⟩,
    ⟨(some 13), .cmp .gtr, [.tmp 12, .const (.int .i64 8)], none⟩] false)
  (.cond (.tmp 13)
    (.seq (.ops [
      ⟨(some 4), .mov, [.const (.bool true)], none⟩] false)
    .ret)
    .skip))
  (.seq (.ops [
    ⟨(some 14), .mov, [.tmp 1], none⟩,
    ⟨(some 15), .conv .i64, [.tmp 14], none⟩,
    ⟨(some 16), .mov, [.tmp 0], none⟩,
    ⟨(some 17), .len, [.tmp 16], none⟩,
    ⟨(some 18), .bin .add .i64 false, [.tmp 17, .const (.int .i64 1)], none⟩,
    ⟨(some 19), .bin .rem .i64 false, [.tmp 15, .tmp 18], none⟩,
    ⟨(some 5), .mov, [.tmp 19], none⟩] false)
  (.seq (.ops [
    ⟨(some 20), .mov, [.tmp 0], none⟩,
    ⟨(some 21), .mov, [.tmp 5], none⟩,
    ⟨(some 22), .slice 2 false true, [.tmp 20, .tmp 21], none⟩,
    ⟨(some 23), .mov, [.tmp 0], none⟩,
    ⟨(some 24), .mov, [.tmp 5], none⟩,
    ⟨(some 25), .slice 2 true false, [.tmp 23, .tmp 24], none⟩,
    ⟨(some 6), .mov, [.tmp 22], none⟩,
    ⟨(some 7), .mov, [.tmp 25], none⟩] true)
  (.seq (.seq (.ops [
    ⟨(some 26), .mov, [.tmp 0], none⟩,
    ⟨(some 27), .call 11, [.tmp 26], none⟩,
    ⟨(some 28), .cmp .neq, [.tmp 27, .const (.int .i64 0)], none⟩,
    ⟨(some 29), .mov, [.tmp 28], none⟩,
    ⟨(some 30), .mov, [.tmp 6], (some (29, false))⟩,
    ⟨(some 31), .call 11, [.tmp 30], (some (29, false))⟩,
    ⟨(some 32), .cmp .neq, [.tmp 31, .const (.int .i64 0)], (some (29, false))⟩,
    ⟨(some 33), .pick, [.tmp 29, .const (.bool true), .tmp 32], none⟩,
    ⟨(some 34), .mov, [.tmp 33], none⟩,
    ⟨(some 35), .mov, [.tmp 7], (some (34, false))⟩,
    ⟨(some 36), .call 11, [.tmp 35], (some (34, false))⟩,
    ⟨(some 37), .cmp .neq, [.tmp 36, .const (.int .i64 0)], (some (34, false))⟩,
    ⟨(some 38), .pick, [.tmp 34, .const (.bool true), .tmp 37], none⟩] false)
  (.cond (.tmp 38)
    (.seq (.ops [
      ⟨(some 4), .mov, [.const (.bool true)], none⟩] false)
    .ret)
    .skip))
  (.seq (.ops [
    ⟨(some 39), .buildOwn 32 3, [], none⟩,
    ⟨(some 40), .mov, [.tmp 6], none⟩,
    ⟨(some 41), .call 17, [.tmp 40], none⟩,
    ⟨(some 42), .append 32 3 24, [.tmp 39, .tmp 41], none⟩,
    ⟨(some 43), .mov, [.tmp 7], none⟩,
    ⟨(some 44), .call 17, [.tmp 43], none⟩,
    ⟨(some 45), .append 32 3 24, [.tmp 42, .tmp 44], none⟩,
    ⟨(some 8), .mov, [.tmp 45], none⟩] false)
  (.seq (.ops [
    ⟨(some 46), .mov, [.tmp 0], none⟩,
    ⟨(some 47), .mov, [.tmp 8], none⟩,
    ⟨(some 48), .call 13, [.tmp 46, .tmp 47], none⟩,
    ⟨(some 49), .mov, [.tmp 48], none⟩,
    ⟨(some 50), .mov, [.tmp 0], (some (49, true))⟩,
    ⟨(some 51), .call 15, [.tmp 50], (some (49, true))⟩,
    ⟨(some 52), .mov, [.tmp 6], (some (49, true))⟩,
    ⟨(some 53), .call 15, [.tmp 52], (some (49, true))⟩,
    ⟨(some 54), .mov, [.tmp 7], (some (49, true))⟩,
    ⟨(some 55), .call 15, [.tmp 54], (some (49, true))⟩,
    ⟨(some 56), .bin .add .i64 false, [.tmp 53, .tmp 55], (some (49, true))⟩,
    ⟨(some 57), .cmp .leq, [.tmp 51, .tmp 56], (some (49, true))⟩,
    ⟨(some 58), .pick, [.tmp 49, .tmp 57, .const (.bool false)], none⟩,
    ⟨(some 4), .mov, [.tmp 58], none⟩] false)
  .ret))))))))⟩
theorem lawLow : lowF Try.prog { owns := [(39, 32)] } Try.f9 = some lawIr := by kernel_rfl
def lawS : Spec := spec (List Share × Int) (fun p => [L 2 (p.1.map encS), .c (.int .u8 p.2)]) (fun p => 0 ≤ p.2 ∧ p.2 ≤ 255) (fun _ => B true)
set_option maxHeartbeats 1000000 in
theorem lawV : fnV Try.prog lawIr lawS := by
  intro ⟨(l : List Share), (c : Int)⟩ hx
  obtain ⟨c1, c2⟩ : 0 ≤ c ∧ c ≤ 255 := hx
  show vc _ _ _ _ ⟨argEnv 0 [L 2 (l.map encS), .c (.int .u8 c)], [], 0⟩
  have hl : (l.map encS).length = l.length := List.length_map ..
  by_cases h8 : 8 < l.length
  · repeat' ((conv => whnf); first | (refine ⟨fun h => ?_, fun h => ?_⟩ <;> try (exfalso; first | omega | exact absurd h (by decide) | exact h rfl)) | (refine ⟨_, alive_h, (), trivial, leVs_of_eq rfl, .inl rfl, rfl, ?_⟩; show norm (B true) _) | exact ⟨[], rfl, trivial, rfl⟩ | fail)
  have hmod : c.tmod (((l.map encS).length : Int) + 1) = c % ((l.length : Int) + 1) := by rw [hl]; exact Int.tmod_eq_emod_of_nonneg c1
  have hm1 := Int.emod_nonneg c (b := (l.length : Int) + 1) (by omega)
  have hm2 := Int.emod_lt_of_pos c (b := (l.length : Int) + 1) (by omega)
  obtain ⟨k, hk⟩ := Int.eq_ofNat_of_zero_le hm1
  rw [hk] at hmod hm2
  have hkl : k ≤ l.length := by omega
  have eA : List.drop (0 : Int).toNat (List.take ((k : Int)).toNat (List.map encS l)) = List.map encS (l.take k) := by
    rw [Int.toNat_natCast, show (0 : Int).toNat = 0 from rfl, List.drop_zero, List.map_take]
  have eB : List.drop ((k : Int)).toNat (List.take ((((l.map encS).length : Nat) : Int)).toNat (List.map encS l)) = List.map encS (l.drop k) := by
    rw [Int.toNat_natCast, Int.toNat_natCast, List.take_of_length_le (Nat.le_refl _), List.map_drop]
  repeat' ((conv => whnf); first | (refine ⟨fun h => ?_, fun h => ?_⟩ <;> try (exfalso; first | omega | exact absurd h (by decide) | exact h rfl)) | (refine ⟨_, alive_h, (), trivial, leVs_of_eq rfl, .inl rfl, rfl, ?_⟩; show norm (B true) _) | (refine ⟨⟨by omega, by omega, by omega⟩, ?_⟩; first | rw [eA] | rw [eB]) | refine ⟨⟨by omega, by omega⟩, ?_⟩ | (refine ⟨by omega, ?_⟩; rw [hmod]) | fail)
  by_cases h0 : rightF l = 0
  · by_cases h1 : rightF (l.take k) = 0
    · by_cases h2 : rightF (l.drop k) = 0
      · have hr := right_iff.1 h0
        have ha := right_iff.1 h1
        have hb := right_iff.1 h2
        have hv := validB_iff.2 (apart_valid ha hb)
        have hle := apart_least hr ha hb
        have q0 := least_le hr
        have q1 := least_le ha
        have q2 := least_le hb
        have n1 := (netF_spec ha).len
        have n2 := (netF_spec hb).len
        have hll : ((netF (l.take k)).map encT).length = (netF (l.take k)).length := List.length_map ..
        have hll2 : ((netF (l.drop k)).map encT).length = (netF (l.drop k)).length := List.length_map ..
        have eN : [] ++ (netF (l.take k)).map encT ++ (netF (l.drop k)).map encT = (netF (l.take k) ++ netF (l.drop k)).map encT := by rw [List.nil_append, List.map_append]
        repeat' ((conv => whnf); first | (refine ⟨fun h => ?_, fun h => ?_⟩ <;> try (exfalso; first | omega | exact absurd h (by decide) | exact h rfl)) | (refine ⟨_, right_h, l, (by show List.length _ ≤ _; first | omega | (rw [List.length_take]; omega) | (rw [List.length_drop]; omega)), leVs_of_eq rfl, .inl rfl, rfl, ?_⟩; show norm (I (rightF (l))) _; rw [h0]) | (refine ⟨_, right_h, l.take k, (by show List.length _ ≤ _; first | omega | (rw [List.length_take]; omega) | (rw [List.length_drop]; omega)), leVs_of_eq rfl, .inl rfl, rfl, ?_⟩; show norm (I (rightF (l.take k))) _; rw [h1]) | (refine ⟨_, right_h, l.drop k, (by show List.length _ ≤ _; first | omega | (rw [List.length_take]; omega) | (rw [List.length_drop]; omega)), leVs_of_eq rfl, .inl rfl, rfl, ?_⟩; show norm (I (rightF (l.drop k))) _; rw [h2]) | (refine ⟨_, net_h, l.take k, ha, leVs_of_eq rfl, .inl rfl, rfl, ?_⟩; show norm (L 3 ((netF (l.take k)).map encT)) _) | (refine ⟨_, net_h, l.drop k, hb, leVs_of_eq rfl, .inl rfl, rfl, ?_⟩; show norm (L 3 ((netF (l.drop k)).map encT)) _) | (refine ⟨⟨by simp only [List.length_map, List.length_append, List.length_nil]; omega, by simp only [List.length_map, List.length_append, List.length_nil]; omega⟩, ?_⟩; try rw [eN]) | (refine ⟨_, valid_h, (l, netF (l.take k) ++ netF (l.drop k)), (by show RightP l ∧ (netF (l.take k) ++ netF (l.drop k)).length ≤ 1000; exact ⟨hr, by rw [List.length_append]; omega⟩), leVs_of_eq rfl, .inr rfl, rfl, ?_⟩; show norm (B (validB l (netF (l.take k) ++ netF (l.drop k)))) _; rw [hv]) | (refine ⟨_, least_h, l, hr, leVs_of_eq rfl, .inl rfl, rfl, ?_⟩; show norm (I ((leastF (l) : Nat) : Int)) _) | (refine ⟨_, least_h, l.take k, ha, leVs_of_eq rfl, .inl rfl, rfl, ?_⟩; show norm (I ((leastF (l.take k) : Nat) : Int)) _) | (refine ⟨_, least_h, l.drop k, hb, leVs_of_eq rfl, .inl rfl, rfl, ?_⟩; show norm (I ((leastF (l.drop k) : Nat) : Int)) _) | refine ⟨⟨by omega, by omega⟩, ?_⟩ | exact ⟨[], rfl, trivial, rfl⟩ | fail)
      · repeat' ((conv => whnf); first | (refine ⟨_, right_h, l, (by show List.length _ ≤ _; first | omega | (rw [List.length_take]; omega) | (rw [List.length_drop]; omega)), leVs_of_eq rfl, .inl rfl, rfl, ?_⟩; show norm (I (rightF (l))) _; rw [h0]) | (refine ⟨_, right_h, l.take k, (by show List.length _ ≤ _; first | omega | (rw [List.length_take]; omega) | (rw [List.length_drop]; omega)), leVs_of_eq rfl, .inl rfl, rfl, ?_⟩; show norm (I (rightF (l.take k))) _; rw [h1]) | (refine ⟨_, right_h, l.drop k, (by show List.length _ ≤ _; first | omega | (rw [List.length_take]; omega) | (rw [List.length_drop]; omega)), leVs_of_eq rfl, .inl rfl, rfl, ?_⟩; show norm (I (rightF (l.drop k))) _) | (refine ⟨fun h => ?_, fun h => ?_⟩ <;> try (exfalso; first | omega | exact absurd h (by decide) | exact h rfl)) | exact ⟨[], rfl, trivial, rfl⟩ | fail)
    · repeat' ((conv => whnf); first | (refine ⟨_, right_h, l, (by show List.length _ ≤ _; first | omega | (rw [List.length_take]; omega) | (rw [List.length_drop]; omega)), leVs_of_eq rfl, .inl rfl, rfl, ?_⟩; show norm (I (rightF (l))) _; rw [h0]) | (refine ⟨_, right_h, l.take k, (by show List.length _ ≤ _; first | omega | (rw [List.length_take]; omega) | (rw [List.length_drop]; omega)), leVs_of_eq rfl, .inl rfl, rfl, ?_⟩; show norm (I (rightF (l.take k))) _) | (refine ⟨fun h => ?_, fun h => ?_⟩ <;> try (exfalso; first | omega | exact absurd h (by decide) | exact h rfl)) | exact ⟨[], rfl, trivial, rfl⟩ | fail)
  · repeat' ((conv => whnf); first | (refine ⟨_, right_h, l, (by show List.length _ ≤ _; first | omega | (rw [List.length_take]; omega) | (rw [List.length_drop]; omega)), leVs_of_eq rfl, .inl rfl, rfl, ?_⟩; show norm (I (rightF (l))) _) | (refine ⟨fun h => ?_, fun h => ?_⟩ <;> try (exfalso; first | omega | exact absurd h (by decide) | exact h rfl)) | exact ⟨[], rfl, trivial, rfl⟩ | fail)
theorem law_h : Holds Try.prog 9 lawS := holds_of mix Try.func9 lawLow (fun _ => rfl) lawV

/-! ### THE ROW's STEP -/
theorem own : ownKnob Try.prog.godebug = none := by kernel_rfl
theorem laidOut : laidOutB Try.prog = true := by kernel_rfl
set_option maxRecDepth 100000 in
theorem lifted (os : Os) (started : os.Started) (H : Type) (enc : TypeId × Value → H) :
    ReturnsInHanded {} Try.checked os 9 .any (Rows.nettingApartSpec.pre6 enc Try.prog Try.f9 Rows.nettingApartRow.domain false) (Rows.nettingApartSpec.post enc Try.prog Try.f9 false true false false) := by
  refine returnsInHanded_of_change (C := Try.checked) own started (by kernel_rfl) Try.func9
    (ChangeSpec.witness6 (enc := enc) (C := Try.checked) false ⟨#[], #[.slice none 0 0, .int .u8 0], []⟩ 8 (by kernel_rfl) (by kernel_rfl) (by kernel_rfl) (by kernel_rfl)) ?_
  intro W base args ds gs before hval0 hW hcnd _
  have hval : ∀ (j : Nat) t v, Try.f9.params[j]? = some t → args[j]? = some v → Value.okWide Try.prog W .any base t v := hval0
  have hW' := hW
  obtain ⟨p, q, hA0, hV, rfl, hfz, hnd⟩ := hW
  have hA : DataW.TrodAll enc Try.prog W 0 (fun _ => true) true Try.f9.params.toList args.toList ds p := hA0
  rw [Try.params9] at hA hval
  obtain ⟨v0, vs0, d0, ds0, p0, q0, hargs, rfl, rfl, h0, r0⟩ := trodAll_cons hA
  obtain ⟨v1, vs1, d1, ds1, p1, q1, rfl, rfl, rfl, h1, r1⟩ := trodAll_cons r0
  obtain ⟨rfl, rfl, rfl⟩ := trodAll_nil r1
  obtain rfl : args = #[v0, v1] := by cases args; simp_all
  obtain ⟨rfl, rfl⟩ := trodVars_none hV
  have lt0 : ∀ x ∈ p0, x.block < W.heap.size := by obtain ⟨m, hm⟩ := h0; exact DataW.trod_lt m _ _ _ hm
  obtain ⟨z0, w0, x0⟩ := openS (hval 0 22 v0 rfl rfl) h0
  have lt1 : ∀ x ∈ p1, x.block < W.heap.size := by obtain ⟨m, hm⟩ := h1; exact DataW.trod_lt m _ _ _ hm
  obtain ⟨z1, w1, x1⟩ := open_i Try.underlying5 (hval 1 5 v1 rfl rfl) h1
  clear hA0 hval0
  refine Calls.mono (law_calls law_h (z0, z1) (u8_of w1) rfl (vs := [v0, v1]) (replist_mk x0 (replist_mk x1 replist_mk0))) fun e W' ⟨he, bel⟩ => ?_
  subst he
  exact ⟨_, rfl, _, _, _, [], _, [], hW', trodAll_mk1 (shut_bool Try.underlying4 _), (trodAll_cons_mk (Below.trod laidOut (by kernel_rfl) (of_decide_eq_true (by kernel_rfl)) h0 bel lt0) (trodAll_cons_mk (Below.trod laidOut (by kernel_rfl) (of_decide_eq_true (by kernel_rfl)) h1 bel lt1) trodAll_mk0)), rfl, bel.frame _, fun h => by cases h⟩

theorem over : Rows.nettingApartRow.holds Try.pinned (OpenSpec.ofChange Rows.nettingApartSpec) :=
  OpenClaim.holds_of_wide 9 Try.f9 rfl rfl rfl rfl rfl rfl rfl ⟨rfl, rfl, rfl, rfl, rfl⟩ rfl rfl rfl rfl rfl (by kernel_rfl) Try.func9 (by kernel_rfl)
    (of_decide_eq_true (by kernel_rfl)) (by unfold Func.isWrapper; first | (rw [if_pos (by decide +kernel)]; kernel_rfl) | (rw [if_neg (by decide +kernel)]; exact ⟨rfl, rfl⟩))
    (fun os started H enc _ => lifted os started H enc)

theorem proved : Rows.NettingApartSaid := over
end Go.Proofs.Ytdkkblcninogdaa.lawApart
