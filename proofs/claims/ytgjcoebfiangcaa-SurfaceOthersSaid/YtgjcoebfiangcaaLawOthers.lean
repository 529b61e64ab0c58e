/- SurfaceOthers: Groom and Descend change nothing about other runs, and return valid surfaces. No condition. -/
import Derived.Test.YtgjcoebfiangcaaArg
namespace Go.Proofs.Ytgjcoebfiangcaa.lawOthers
open Go.ChangeShapes Go.WideShapes Go.ChangeAt Go.RowKit Go.Deep Go.Joins
set_option linter.unusedVariables false
set_option maxRecDepth 20000

/-! skiarea/skiarealaw48.SurfaceOthers -/
def lawIr : IFn := ⟨175, [.tmp 8],
  (.seq (.ops [
    ⟨(some 8), .mov, [.const (.bool false)], none⟩] false)
  (.seq (.seq (.ops [
    ⟨(some 14), .call 11, [], none⟩,
    ⟨(some 15), .not, [.tmp 14], none⟩] false)
  (.cond (.tmp 15)
    (.seq (.ops [
      ⟨(some 8), .mov, [.const (.bool false)], none⟩] false)
    .ret)
    .skip))
  (.seq (.seq (.ops [
    ⟨(some 16), .mov, [.tmp 0], none⟩,
    ⟨(some 17), .len, [.tmp 16], none⟩,
    ⟨(some 18), .cmp .gtr, [.tmp 17, .const (.int .i64 80)], none⟩,
    ⟨(some 19), .mov, [.tmp 18], none⟩,
    ⟨(some 20), .mov, [.tmp 0], (some (19, false))⟩,
    ⟨(some 21), .call 12, [.tmp 20], (some (19, false))⟩,
    ⟨(some 22), .cmp .neq, [.tmp 21, .const (.int .i64 0)], (some (19, false))⟩,
    ⟨(some 23), .pick, [.tmp 19, .const (.bool true), .tmp 22], none⟩] false)
  (.cond (.tmp 23)
    (.seq (.ops [
      ⟨(some 8), .mov, [.const (.bool true)], none⟩] false)
    .ret)
    .skip))
  (.seq (.ops [
    ⟨(some 25), .mov, [.tmp 0], none⟩,
    ⟨(some 26), .mov, [.tmp 1], none⟩,
    ⟨(some 27), .mov, [.tmp 2], none⟩,
    ⟨(some 28), .call 14, [.tmp 25, .tmp 26, .tmp 27], none⟩,
    ⟨(some 24), .mov, [.tmp 28], none⟩,
    ⟨(some 29), .extract 0, [.tmp 24], none⟩,
    ⟨(some 30), .extract 1, [.tmp 24], none⟩,
    ⟨(some 9), .mov, [.tmp 29], none⟩,
    ⟨(some 10), .mov, [.tmp 30], none⟩] false)
  (.seq (.ops [
    ⟨(some 32), .mov, [.tmp 0], none⟩,
    ⟨(some 33), .mov, [.tmp 1], none⟩,
    ⟨(some 34), .mov, [.tmp 3], none⟩,
    ⟨(some 35), .call 17, [.tmp 32, .tmp 33, .tmp 34], none⟩,
    ⟨(some 31), .mov, [.tmp 35], none⟩,
    ⟨(some 36), .extract 0, [.tmp 31], none⟩,
    ⟨(some 37), .extract 1, [.tmp 31], none⟩,
    ⟨(some 11), .mov, [.tmp 36], none⟩,
    ⟨(some 12), .mov, [.tmp 37], none⟩] false)
  (.seq (.seq (.ops [
    ⟨(some 38), .mov, [.tmp 10], none⟩,
    ⟨(some 39), .cmp .neq, [.tmp 38, .const (.int .i64 0)], none⟩,
    ⟨(some 40), .mov, [.tmp 39], none⟩,
    ⟨(some 41), .mov, [.tmp 9], (some (40, true))⟩,
    ⟨(some 42), .len, [.tmp 41], (some (40, true))⟩,
    ⟨(some 43), .cmp .neq, [.tmp 42, .const (.int .i64 0)], (some (40, true))⟩,
    ⟨(some 44), .pick, [.tmp 40, .tmp 43, .const (.bool false)], none⟩,
    ⟨(some 45), .mov, [.tmp 44], none⟩,
    ⟨(some 46), .mov, [.tmp 12], (some (45, false))⟩,
    ⟨(some 47), .cmp .neq, [.tmp 46, .const (.int .i64 0)], (some (45, false))⟩,
    ⟨(some 48), .mov, [.tmp 47], (some (45, false))⟩,
    ⟨(some 49), .mov, [.tmp 11], (some (48, true))⟩,
    ⟨(some 50), .len, [.tmp 49], (some (48, true))⟩,
    ⟨(some 51), .cmp .neq, [.tmp 50, .const (.int .i64 0)], (some (48, true))⟩,
    ⟨(some 52), .pick, [.tmp 48, .tmp 51, .const (.bool false)], (some (45, false))⟩,
    ⟨(some 53), .pick, [.tmp 45, .const (.bool true), .tmp 52], none⟩] false)
  (.cond (.tmp 53)
    (.seq (.ops [
      ⟨(some 8), .mov, [.const (.bool false)], none⟩] false)
    .ret)
    .skip))
  (.seq (.seq (.ops [
    ⟨(some 54), .mov, [.tmp 10], none⟩,
    ⟨(some 55), .cmp .eql, [.tmp 54, .const (.int .i64 0)], none⟩,
    ⟨(some 56), .mov, [.tmp 55], none⟩,
    ⟨(some 57), .mov, [.tmp 9], (some (56, true))⟩,
    ⟨(some 58), .len, [.tmp 57], (some (56, true))⟩,
    ⟨(some 59), .mov, [.tmp 0], (some (56, true))⟩,
    ⟨(some 60), .len, [.tmp 59], (some (56, true))⟩,
    ⟨(some 61), .cmp .neq, [.tmp 58, .tmp 60], (some (56, true))⟩,
    ⟨(some 62), .mov, [.tmp 61], (some (56, true))⟩,
    ⟨(some 63), .mov, [.tmp 9], (some (62, false))⟩,
    ⟨(some 64), .call 12, [.tmp 63], (some (62, false))⟩,
    ⟨(some 65), .cmp .neq, [.tmp 64, .const (.int .i64 0)], (some (62, false))⟩,
    ⟨(some 66), .pick, [.tmp 62, .const (.bool true), .tmp 65], (some (56, true))⟩,
    ⟨(some 67), .pick, [.tmp 56, .tmp 66, .const (.bool false)], none⟩,
    ⟨(some 68), .mov, [.tmp 67], none⟩,
    ⟨(some 69), .mov, [.tmp 12], (some (68, false))⟩,
    ⟨(some 70), .cmp .eql, [.tmp 69, .const (.int .i64 0)], (some (68, false))⟩,
    ⟨(some 71), .mov, [.tmp 70], (some (68, false))⟩,
    ⟨(some 72), .mov, [.tmp 11], (some (71, true))⟩,
    ⟨(some 73), .len, [.tmp 72], (some (71, true))⟩,
    ⟨(some 74), .mov, [.tmp 0], (some (71, true))⟩,
    ⟨(some 75), .len, [.tmp 74], (some (71, true))⟩,
    ⟨(some 76), .cmp .neq, [.tmp 73, .tmp 75], (some (71, true))⟩,
    ⟨(some 77), .mov, [.tmp 76], (some (71, true))⟩,
    ⟨(some 78), .mov, [.tmp 11], (some (77, false))⟩,
    ⟨(some 79), .call 12, [.tmp 78], (some (77, false))⟩,
    ⟨(some 80), .cmp .neq, [.tmp 79, .const (.int .i64 0)], (some (77, false))⟩,
    ⟨(some 81), .pick, [.tmp 77, .const (.bool true), .tmp 80], (some (71, true))⟩,
    ⟨(some 82), .pick, [.tmp 71, .tmp 81, .const (.bool false)], (some (68, false))⟩,
    ⟨(some 83), .pick, [.tmp 68, .const (.bool true), .tmp 82], none⟩] false)
  (.cond (.tmp 83)
    (.seq (.ops [
      ⟨(some 8), .mov, [.const (.bool false)], none⟩] false)
    .ret)
    .skip))
  (.seq (.seq (.ops [
    ⟨(some 13), .mov, [.const (.int .i64 0)], none⟩] false)
  (.block 0
    (.loop
      (.seq (.seq (.ops [
        ⟨(some 84), .mov, [.tmp 13], none⟩,
        ⟨(some 85), .mov, [.tmp 0], none⟩,
        ⟨(some 86), .len, [.tmp 85], none⟩,
        ⟨(some 87), .cmp .lss, [.tmp 84, .tmp 86], none⟩] false)
      (.cond (.tmp 87)
        .skip
        (.exit 0)))
      (.seq (.block 1
        (.seq (.ops [
          ⟨(some 90), .mov, [.tmp 10], none⟩,
          ⟨(some 91), .cmp .eql, [.tmp 90, .const (.int .i64 0)], none⟩,
          ⟨(some 92), .mov, [.tmp 91], none⟩,
          ⟨(some 93), .mov, [.tmp 9], (some (92, true))⟩,
          ⟨(some 94), .mov, [.tmp 13], (some (92, true))⟩,
          ⟨(some 95), .idx 3, [.tmp 93, .tmp 94], (some (92, true))⟩,
          ⟨(some 96), .faddr 0, [.tmp 95], (some (92, true))⟩,
          ⟨(some 97), .load 1 false, [.tmp 96], (some (92, true))⟩,
          ⟨(some 98), .mov, [.tmp 0], (some (92, true))⟩,
          ⟨(some 99), .mov, [.tmp 13], (some (92, true))⟩,
          ⟨(some 100), .idx 3, [.tmp 98, .tmp 99], (some (92, true))⟩,
          ⟨(some 101), .faddr 0, [.tmp 100], (some (92, true))⟩,
          ⟨(some 102), .load 1 false, [.tmp 101], (some (92, true))⟩,
          ⟨(some 103), .cmp .neq, [.tmp 97, .tmp 102], (some (92, true))⟩,
          ⟨(some 104), .mov, [.tmp 103], (some (92, true))⟩,
          ⟨(some 105), .mov, [.tmp 0], (some (104, false))⟩,
          ⟨(some 106), .mov, [.tmp 13], (some (104, false))⟩,
          ⟨(some 107), .idx 3, [.tmp 105, .tmp 106], (some (104, false))⟩,
          ⟨(some 108), .faddr 0, [.tmp 107], (some (104, false))⟩,
          ⟨(some 109), .load 1 false, [.tmp 108], (some (104, false))⟩,
          ⟨(some 110), .mov, [.tmp 1], (some (104, false))⟩,
          ⟨(some 111), .cmp .neq, [.tmp 109, .tmp 110], (some (104, false))⟩,
          ⟨(some 112), .mov, [.tmp 111], (some (104, false))⟩,
          ⟨(some 113), .mov, [.tmp 9], (some (112, true))⟩,
          ⟨(some 114), .mov, [.tmp 13], (some (112, true))⟩,
          ⟨(some 115), .idx 3, [.tmp 113, .tmp 114], (some (112, true))⟩,
          ⟨(some 116), .load 3 true, [.tmp 115], (some (112, true))⟩,
          ⟨(some 117), .mov, [.tmp 0], (some (112, true))⟩,
          ⟨(some 118), .mov, [.tmp 13], (some (112, true))⟩,
          ⟨(some 119), .idx 3, [.tmp 117, .tmp 118], (some (112, true))⟩,
          ⟨(some 120), .load 3 true, [.tmp 119], (some (112, true))⟩,
          ⟨(some 121), .eqa [false, false, false] true, [.tmp 116, .tmp 120], (some (112, true))⟩,
          ⟨(some 122), .pick, [.tmp 112, .tmp 121, .const (.bool false)], (some (104, false))⟩,
          ⟨(some 123), .pick, [.tmp 104, .const (.bool true), .tmp 122], (some (92, true))⟩,
          ⟨(some 124), .pick, [.tmp 92, .tmp 123, .const (.bool false)], none⟩,
          ⟨(some 125), .mov, [.tmp 124], none⟩,
          ⟨(some 126), .mov, [.tmp 12], (some (125, false))⟩,
          ⟨(some 127), .cmp .eql, [.tmp 126, .const (.int .i64 0)], (some (125, false))⟩,
          ⟨(some 128), .mov, [.tmp 127], (some (125, false))⟩,
          ⟨(some 129), .mov, [.tmp 11], (some (128, true))⟩,
          ⟨(some 130), .mov, [.tmp 13], (some (128, true))⟩,
          ⟨(some 131), .idx 3, [.tmp 129, .tmp 130], (some (128, true))⟩,
          ⟨(some 132), .faddr 0, [.tmp 131], (some (128, true))⟩,
          ⟨(some 133), .load 1 false, [.tmp 132], (some (128, true))⟩,
          ⟨(some 134), .mov, [.tmp 0], (some (128, true))⟩,
          ⟨(some 135), .mov, [.tmp 13], (some (128, true))⟩,
          ⟨(some 136), .idx 3, [.tmp 134, .tmp 135], (some (128, true))⟩,
          ⟨(some 137), .faddr 0, [.tmp 136], (some (128, true))⟩,
          ⟨(some 138), .load 1 false, [.tmp 137], (some (128, true))⟩,
          ⟨(some 139), .cmp .neq, [.tmp 133, .tmp 138], (some (128, true))⟩,
          ⟨(some 140), .mov, [.tmp 139], (some (128, true))⟩,
          ⟨(some 141), .mov, [.tmp 11], (some (140, false))⟩,
          ⟨(some 142), .mov, [.tmp 13], (some (140, false))⟩,
          ⟨(some 143), .idx 3, [.tmp 141, .tmp 142], (some (140, false))⟩,
          ⟨(some 144), .faddr 1, [.tmp 143], (some (140, false))⟩,
          ⟨(some 145), .load 1 false, [.tmp 144], (some (140, false))⟩,
          ⟨(some 146), .mov, [.tmp 0], (some (140, false))⟩,
          ⟨(some 147), .mov, [.tmp 13], (some (140, false))⟩,
          ⟨(some 148), .idx 3, [.tmp 146, .tmp 147], (some (140, false))⟩,
          ⟨(some 149), .faddr 1, [.tmp 148], (some (140, false))⟩,
          ⟨(some 150), .load 1 false, [.tmp 149], (some (140, false))⟩,
          ⟨(some 151), .cmp .neq, [.tmp 145, .tmp 150], (some (140, false))⟩,
          ⟨(some 152), .pick, [.tmp 140, .const (.bool true), .tmp 151], (some (128, true))⟩,
          ⟨(some 153), .mov, [.tmp 152], (some (128, true))⟩,
          ⟨(some 154), .mov, [.tmp 0], (some (153, false))⟩,
          ⟨(some 155), .mov, [.tmp 13], (some (153, false))⟩,
          ⟨(some 156), .idx 3, [.tmp 154, .tmp 155], (some (153, false))⟩,
          ⟨(some 157), .faddr 0, [.tmp 156], (some (153, false))⟩,
          ⟨(some 158), .load 1 false, [.tmp 157], (some (153, false))⟩,
          ⟨(some 159), .mov, [.tmp 1], (some (153, false))⟩,
          ⟨(some 160), .cmp .neq, [.tmp 158, .tmp 159], (some (153, false))⟩,
          ⟨(some 161), .mov, [.tmp 160], (some (153, false))⟩,
          ⟨(some 162), .mov, [.tmp 11], (some (161, true))⟩,
          ⟨(some 163), .mov, [.tmp 13], (some (161, true))⟩,
          ⟨(some 164), .idx 3, [.tmp 162, .tmp 163], (some (161, true))⟩,
          ⟨(some 165), .load 3 true, [.tmp 164], (some (161, true))⟩,
          ⟨(some 166), .mov, [.tmp 0], (some (161, true))⟩,
          ⟨(some 167), .mov, [.tmp 13], (some (161, true))⟩,
          ⟨(some 168), .idx 3, [.tmp 166, .tmp 167], (some (161, true))⟩,
          ⟨(some 169), .load 3 true, [.tmp 168], (some (161, true))⟩,
          ⟨(some 170), .eqa [false, false, false] true, [.tmp 165, .tmp 169], (some (161, true))⟩,
          ⟨(some 171), .pick, [.tmp 161, .tmp 170, .const (.bool false)], (some (153, false))⟩,
          ⟨(some 172), .pick, [.tmp 153, .const (.bool true), .tmp 171], (some (128, true))⟩,
          ⟨(some 173), .pick, [.tmp 128, .tmp 172, .const (.bool false)], (some (125, false))⟩,
          ⟨(some 174), .pick, [.tmp 125, .const (.bool true), .tmp 173], none⟩] true)
        (.cond (.tmp 174)
          (.seq (.ops [
            ⟨(some 8), .mov, [.const (.bool false)], none⟩] false)
          .ret)
          .skip)))
      (.ops [
        ⟨(some 88), .mov, [.tmp 13], none⟩,
        ⟨(some 89), .bin .add .i64 false, [.tmp 88, .const (.int .i64 1)], none⟩,
        ⟨(some 13), .mov, [.tmp 89], none⟩] false))))))
  (.seq (.ops [
    ⟨(some 8), .mov, [.const (.bool true)], none⟩] false)
  .ret)))))))))⟩
theorem lawLow : lowF Try.prog {} Try.f9 = some lawIr := by kernel_rfl
def lawS : Spec := spec (List Sf × Int × Int × Int) (fun p => [L 3 (p.1.map encS), I p.2.1, I p.2.2.1, I p.2.2.2]) (fun p => p.1.length ≤ 9223372036854775807) (fun _ => B true)
set_option maxHeartbeats 4000000 in
theorem lawV : fnV Try.prog lawIr lawS := by
  intro ⟨(l : List Sf), (run : Int), (t : Int), (n : Int)⟩ (hl0 : l.length ≤ 9223372036854775807)
  have hl : (l.map encS).length = l.length := List.length_map ..
  show vc _ _ _ _ ⟨argEnv 0 [L 3 (l.map encS), I run, I t, I n], [], 0⟩
  by_cases h80 : 80 < l.length
  · repeat' ((conv => whnf); first | (refine ⟨fun h => ?_, fun h => ?_⟩ <;> try (exfalso; first | omega | exact absurd h (by decide) | exact h rfl | exact absurd (show true = false from h) (by decide) | exact absurd (show false = true from h) (by decide) | exact h ⟨rfl, rfl, rfl, trivial⟩)) | (refine ⟨_, alive_h, (), trivial, leVs_of_eq rfl, .inl rfl, rfl, ?_⟩; show norm (B true) _) | exact ⟨[], rfl, trivial, rfl⟩ | fail)
  obtain ⟨e0, h0⟩ : ∃ e, rightS l = e := ⟨_, rfl⟩
  by_cases he0 : e0 = 0
  · subst he0
    have hl64 := len_of h0
    have htr : ∀ y ∈ l, 0 ≤ y.tr ∧ y.tr ≤ 1000000 := fun y hy => by
      obtain ⟨k, hk⟩ := List.getElem?_of_mem hy
      exact (((sf_iff l).1 h0).2.1 k y hk).2.2
    obtain ⟨⟨a, ea⟩, hA⟩ : ∃ r, onS (groomS t) l run = r := ⟨_, rfl⟩
    obtain ⟨⟨b, eb⟩, hB⟩ : ∃ r, onS (descS n) l run = r := ⟨_, rfl⟩
    have hga : ea = 0 → (rightS a = 0 ∧ a.length = l.length) ∧ ∀ (k : Nat) (x : Sf), l[k]? = some x → ∃ y, a[k]? = some y ∧ y.run = x.run ∧ (x.run ≠ run → y = x) := fun he => by
      subst he
      obtain ⟨k0, was, q1, q2, q3, q4⟩ := on_ok hA
      obtain ⟨q5, q6⟩ := groom_sf q3
      subst q4
      refine ⟨⟨set_rightS h0 q1 q5 (q6 (((sf_iff l).1 h0).2.1 k0 was q1)), List.length_set ..⟩, fun k x hx => ?_⟩
      by_cases hk : k0 = k
      · subst hk
        rw [hx] at q1; cases q1
        exact ⟨_, List.getElem?_set_self (List.getElem?_eq_some_iff.1 hx).1, q5, fun h => absurd q2 h⟩
      · exact ⟨x, (List.getElem?_set_ne hk).trans hx, rfl, fun _ => rfl⟩
    have hgb : eb = 0 → (rightS b = 0 ∧ b.length = l.length) ∧ ∀ (k : Nat) (x : Sf), l[k]? = some x → ∃ y, b[k]? = some y ∧ y.run = x.run ∧ y.gr = x.gr ∧ (x.run ≠ run → y = x) := fun he => by
      subst he
      obtain ⟨k0, was, q1, q2, q3, q4⟩ := on_ok hB
      obtain ⟨⟨q5, q7⟩, q6⟩ := desc_sf q3
      subst q4
      refine ⟨⟨set_rightS h0 q1 q5 (q6 (((sf_iff l).1 h0).2.1 k0 was q1)), List.length_set ..⟩, fun k x hx => ?_⟩
      by_cases hk : k0 = k
      · subst hk
        rw [hx] at q1; cases q1
        exact ⟨_, List.getElem?_set_self (List.getElem?_eq_some_iff.1 hx).1, q5, q7, fun h => absurd q2 h⟩
      · exact ⟨x, (List.getElem?_set_ne hk).trans hx, rfl, rfl, fun _ => rfl⟩
    by_cases hea : ea = 0
    · obtain ⟨⟨har, hal⟩, hgA⟩ := hga hea
      subst hea
      have hla : (a.map encS).length = a.length := List.length_map ..
      by_cases heb : eb = 0
      · obtain ⟨⟨hbr, hbl⟩, hgB⟩ := hgb heb
        subst heb
        have hlb : (b.map encS).length = b.length := List.length_map ..
        repeat' ((conv => whnf); first | (refine ⟨fun h => ?_, fun h => ?_⟩ <;> try (exfalso; first | omega | exact absurd h (by decide) | exact h rfl | exact absurd (show true = false from h) (by decide) | exact absurd (show false = true from h) (by decide) | exact h ⟨rfl, rfl, rfl, trivial⟩)) | (refine ⟨_, alive_h, (), trivial, leVs_of_eq rfl, .inl rfl, rfl, ?_⟩; show norm (B true) _) | (refine ⟨_, rgt_h, l, (by show (l).length ≤ 9223372036854775807; omega), leVs_of_eq rfl, .inl rfl, rfl, ?_⟩; show norm (I (rightS l)) _; rw [h0]) | (refine ⟨_, gro_h, (l, run, t), hl64, leVs_of_eq rfl, .inl rfl, rfl, ?_⟩; show norm (resS (onS (groomS t) l run)) _; rw [hA]; show norm (.tup [L 3 ((a : List Sf).map encS), I 0]) _) | (refine ⟨_, des_h, (l, run, n), ⟨hl64, htr⟩, leVs_of_eq rfl, .inl rfl, rfl, ?_⟩; show norm (resS (onS (descS n) l run)) _; rw [hB]; show norm (.tup [L 3 ((b : List Sf).map encS), I 0]) _) | (refine ⟨_, rgt_h, a, (by show (a).length ≤ 9223372036854775807; omega), leVs_of_eq rfl, .inl rfl, rfl, ?_⟩; show norm (I (rightS a)) _; rw [har]) | (refine ⟨_, rgt_h, b, (by show (b).length ≤ 9223372036854775807; omega), leVs_of_eq rfl, .inl rfl, rfl, ?_⟩; show norm (I (rightS b)) _; rw [hbr]) | (refine And.intro (And.intro (by omega) (by omega)) ?_) | fail | fail)
        refine ⟨Nat, fun xq => ⟨[(0, L 3 (l.map encS)), (1, I run), (9, L 3 (a.map encS)), (10, I 0), (11, L 3 (b.map encS)), (12, I 0), (13, I xq)], [], 0⟩, fun xq => xq ≤ l.length, fun xq => l.length - xq, ⟨0, ?_, [], ⟨⟨rfl, rfl⟩, ⟨⟨rfl, rfl⟩, ⟨⟨rfl, rfl⟩, ⟨⟨rfl, rfl⟩, ⟨⟨rfl, rfl⟩, ⟨⟨rfl, rfl⟩, ⟨⟨rfl, rfl⟩, trivial⟩⟩⟩⟩⟩⟩⟩, trivial, rfl, rfl, rfl⟩, ?_⟩
        · (try dsimp only); exact Nat.zero_le _
        rintro k hk
        obtain hk : k ≤ l.length := hk
        (try dsimp only)
        by_cases hkl : k < l.length
        · obtain ⟨x, hx⟩ := getElem_some hkl
          obtain ⟨y, hy, hya, hyb⟩ := hgA k x hx
          obtain ⟨z, hz, hza, hzg, hzb⟩ := hgB k x hx
          by_cases hr : x.run = run
          · repeat' ((conv => whnf); first | (refine ⟨fun h => ?_, fun h => ?_⟩ <;> try (exfalso; first | omega | exact absurd h (by decide) | exact h rfl | exact absurd (show true = false from h) (by decide) | exact absurd (show false = true from h) (by decide) | exact h ⟨rfl, rfl, rfl, trivial⟩)) | (refine ⟨by omega, fun r hrr => ?_⟩; first | ((have hre : r = encS x := by (first | exact get_row hrr hx | fail)); subst hre) | ((have hre : r = encS y := by (first | exact get_row hrr hy | fail)); subst hre) | ((have hre : r = encS z := by (first | exact get_row hrr hz | fail)); subst hre)) | (refine ⟨k + 1, ⟨?_, by (try dsimp only); omega⟩, [], ⟨⟨rfl, rfl⟩, ⟨⟨rfl, rfl⟩, ⟨⟨rfl, rfl⟩, ⟨⟨rfl, rfl⟩, ⟨⟨rfl, rfl⟩, ⟨⟨rfl, rfl⟩, ⟨⟨rfl, rfl⟩, trivial⟩⟩⟩⟩⟩⟩⟩, trivial, rfl, rfl, rfl⟩; (try dsimp only); omega) | (refine And.intro (And.intro (by omega) (by omega)) ?_) | fail | fail)
          · have hyx := hyb hr
            subst hyx
            have hzx := hzb hr
            subst hzx
            repeat' ((conv => whnf); first | (refine ⟨fun h => ?_, fun h => ?_⟩ <;> try (exfalso; first | omega | exact absurd h (by decide) | exact h rfl | exact absurd (show true = false from h) (by decide) | exact absurd (show false = true from h) (by decide) | exact h ⟨rfl, rfl, rfl, trivial⟩)) | (refine ⟨by omega, fun r hrr => ?_⟩; first | ((have hre : r = encS z := by (first | exact get_row hrr hx | fail)); subst hre) | ((have hre : r = encS z := by (first | exact get_row hrr hy | fail)); subst hre) | ((have hre : r = encS z := by (first | exact get_row hrr hz | fail)); subst hre)) | (refine ⟨k + 1, ⟨?_, by (try dsimp only); omega⟩, [], ⟨⟨rfl, rfl⟩, ⟨⟨rfl, rfl⟩, ⟨⟨rfl, rfl⟩, ⟨⟨rfl, rfl⟩, ⟨⟨rfl, rfl⟩, ⟨⟨rfl, rfl⟩, ⟨⟨rfl, rfl⟩, trivial⟩⟩⟩⟩⟩⟩⟩, trivial, rfl, rfl, rfl⟩; (try dsimp only); omega) | (refine And.intro (And.intro (by omega) (by omega)) ?_) | fail | fail)
        · repeat' ((conv => whnf); first | (refine ⟨fun h => ?_, fun h => ?_⟩ <;> try (exfalso; first | omega | exact absurd h (by decide) | exact h rfl | exact absurd (show true = false from h) (by decide) | exact absurd (show false = true from h) (by decide) | exact h ⟨rfl, rfl, rfl, trivial⟩)) | exact ⟨[], rfl, trivial, rfl⟩ | fail | fail)
      · have hbn := on_nil hB heb
        subst hbn
        repeat' ((conv => whnf); first | (refine ⟨fun h => ?_, fun h => ?_⟩ <;> try (exfalso; first | omega | exact absurd h (by decide) | exact h rfl | exact absurd (show true = false from h) (by decide) | exact absurd (show false = true from h) (by decide) | exact h ⟨rfl, rfl, rfl, trivial⟩)) | (refine ⟨_, alive_h, (), trivial, leVs_of_eq rfl, .inl rfl, rfl, ?_⟩; show norm (B true) _) | (refine ⟨_, rgt_h, l, (by show (l).length ≤ 9223372036854775807; omega), leVs_of_eq rfl, .inl rfl, rfl, ?_⟩; show norm (I (rightS l)) _; rw [h0]) | (refine ⟨_, gro_h, (l, run, t), hl64, leVs_of_eq rfl, .inl rfl, rfl, ?_⟩; show norm (resS (onS (groomS t) l run)) _; rw [hA]; show norm (.tup [L 3 ((a : List Sf).map encS), I 0]) _) | (refine ⟨_, des_h, (l, run, n), ⟨hl64, htr⟩, leVs_of_eq rfl, .inl rfl, rfl, ?_⟩; show norm (resS (onS (descS n) l run)) _; rw [hB]; show norm (.tup [L 3 ((([] : List Sf) : List Sf).map encS), I eb]) _) | (refine ⟨_, rgt_h, a, (by show (a).length ≤ 9223372036854775807; omega), leVs_of_eq rfl, .inl rfl, rfl, ?_⟩; show norm (I (rightS a)) _; rw [har]) | (refine And.intro (And.intro (by omega) (by omega)) ?_) | fail | fail)
        refine ⟨Nat, fun xq => ⟨[(0, L 3 (l.map encS)), (1, I run), (9, L 3 (a.map encS)), (10, I 0), (11, L 3 (([] : List Sf).map encS)), (12, I eb), (13, I xq)], [], 0⟩, fun xq => xq ≤ l.length, fun xq => l.length - xq, ⟨0, ?_, [], ⟨⟨rfl, rfl⟩, ⟨⟨rfl, rfl⟩, ⟨⟨rfl, rfl⟩, ⟨⟨rfl, rfl⟩, ⟨⟨rfl, rfl⟩, ⟨⟨rfl, rfl⟩, ⟨⟨rfl, rfl⟩, trivial⟩⟩⟩⟩⟩⟩⟩, trivial, rfl, rfl, rfl⟩, ?_⟩
        · (try dsimp only); exact Nat.zero_le _
        rintro k hk
        obtain hk : k ≤ l.length := hk
        (try dsimp only)
        by_cases hkl : k < l.length
        · obtain ⟨x, hx⟩ := getElem_some hkl
          obtain ⟨y, hy, hya, hyb⟩ := hgA k x hx
          by_cases hr : x.run = run
          · repeat' ((conv => whnf); first | (refine ⟨fun h => ?_, fun h => ?_⟩ <;> try (exfalso; first | omega | exact absurd h (by decide) | exact h rfl | exact absurd (show true = false from h) (by decide) | exact absurd (show false = true from h) (by decide) | exact h ⟨rfl, rfl, rfl, trivial⟩)) | (refine ⟨by omega, fun r hrr => ?_⟩; first | ((have hre : r = encS x := by (first | exact get_row hrr hx | fail)); subst hre) | ((have hre : r = encS y := by (first | exact get_row hrr hy | fail)); subst hre)) | (refine ⟨k + 1, ⟨?_, by (try dsimp only); omega⟩, [], ⟨⟨rfl, rfl⟩, ⟨⟨rfl, rfl⟩, ⟨⟨rfl, rfl⟩, ⟨⟨rfl, rfl⟩, ⟨⟨rfl, rfl⟩, ⟨⟨rfl, rfl⟩, ⟨⟨rfl, rfl⟩, trivial⟩⟩⟩⟩⟩⟩⟩, trivial, rfl, rfl, rfl⟩; (try dsimp only); omega) | (refine And.intro (And.intro (by omega) (by omega)) ?_) | fail | fail)
          · have hyx := hyb hr
            subst hyx
            repeat' ((conv => whnf); first | (refine ⟨fun h => ?_, fun h => ?_⟩ <;> try (exfalso; first | omega | exact absurd h (by decide) | exact h rfl | exact absurd (show true = false from h) (by decide) | exact absurd (show false = true from h) (by decide) | exact h ⟨rfl, rfl, rfl, trivial⟩)) | (refine ⟨by omega, fun r hrr => ?_⟩; first | ((have hre : r = encS y := by (first | exact get_row hrr hx | fail)); subst hre) | ((have hre : r = encS y := by (first | exact get_row hrr hy | fail)); subst hre)) | (refine ⟨k + 1, ⟨?_, by (try dsimp only); omega⟩, [], ⟨⟨rfl, rfl⟩, ⟨⟨rfl, rfl⟩, ⟨⟨rfl, rfl⟩, ⟨⟨rfl, rfl⟩, ⟨⟨rfl, rfl⟩, ⟨⟨rfl, rfl⟩, ⟨⟨rfl, rfl⟩, trivial⟩⟩⟩⟩⟩⟩⟩, trivial, rfl, rfl, rfl⟩; (try dsimp only); omega) | (refine And.intro (And.intro (by omega) (by omega)) ?_) | fail | fail)
        · repeat' ((conv => whnf); first | (refine ⟨fun h => ?_, fun h => ?_⟩ <;> try (exfalso; first | omega | exact absurd h (by decide) | exact h rfl | exact absurd (show true = false from h) (by decide) | exact absurd (show false = true from h) (by decide) | exact h ⟨rfl, rfl, rfl, trivial⟩)) | exact ⟨[], rfl, trivial, rfl⟩ | fail | fail)
    · have han := on_nil hA hea
      subst han
      by_cases heb : eb = 0
      · obtain ⟨⟨hbr, hbl⟩, hgB⟩ := hgb heb
        subst heb
        have hlb : (b.map encS).length = b.length := List.length_map ..
        repeat' ((conv => whnf); first | (refine ⟨fun h => ?_, fun h => ?_⟩ <;> try (exfalso; first | omega | exact absurd h (by decide) | exact h rfl | exact absurd (show true = false from h) (by decide) | exact absurd (show false = true from h) (by decide) | exact h ⟨rfl, rfl, rfl, trivial⟩)) | (refine ⟨_, alive_h, (), trivial, leVs_of_eq rfl, .inl rfl, rfl, ?_⟩; show norm (B true) _) | (refine ⟨_, rgt_h, l, (by show (l).length ≤ 9223372036854775807; omega), leVs_of_eq rfl, .inl rfl, rfl, ?_⟩; show norm (I (rightS l)) _; rw [h0]) | (refine ⟨_, gro_h, (l, run, t), hl64, leVs_of_eq rfl, .inl rfl, rfl, ?_⟩; show norm (resS (onS (groomS t) l run)) _; rw [hA]; show norm (.tup [L 3 ((([] : List Sf) : List Sf).map encS), I ea]) _) | (refine ⟨_, des_h, (l, run, n), ⟨hl64, htr⟩, leVs_of_eq rfl, .inl rfl, rfl, ?_⟩; show norm (resS (onS (descS n) l run)) _; rw [hB]; show norm (.tup [L 3 ((b : List Sf).map encS), I 0]) _) | (refine ⟨_, rgt_h, b, (by show (b).length ≤ 9223372036854775807; omega), leVs_of_eq rfl, .inl rfl, rfl, ?_⟩; show norm (I (rightS b)) _; rw [hbr]) | (refine And.intro (And.intro (by omega) (by omega)) ?_) | fail | fail)
        refine ⟨Nat, fun xq => ⟨[(0, L 3 (l.map encS)), (1, I run), (9, L 3 (([] : List Sf).map encS)), (10, I ea), (11, L 3 (b.map encS)), (12, I 0), (13, I xq)], [], 0⟩, fun xq => xq ≤ l.length, fun xq => l.length - xq, ⟨0, ?_, [], ⟨⟨rfl, rfl⟩, ⟨⟨rfl, rfl⟩, ⟨⟨rfl, rfl⟩, ⟨⟨rfl, rfl⟩, ⟨⟨rfl, rfl⟩, ⟨⟨rfl, rfl⟩, ⟨⟨rfl, rfl⟩, trivial⟩⟩⟩⟩⟩⟩⟩, trivial, rfl, rfl, rfl⟩, ?_⟩
        · (try dsimp only); exact Nat.zero_le _
        rintro k hk
        obtain hk : k ≤ l.length := hk
        (try dsimp only)
        by_cases hkl : k < l.length
        · obtain ⟨x, hx⟩ := getElem_some hkl
          obtain ⟨z, hz, hza, hzg, hzb⟩ := hgB k x hx
          by_cases hr : x.run = run
          · repeat' ((conv => whnf); first | (refine ⟨fun h => ?_, fun h => ?_⟩ <;> try (exfalso; first | omega | exact absurd h (by decide) | exact h rfl | exact absurd (show true = false from h) (by decide) | exact absurd (show false = true from h) (by decide) | exact h ⟨rfl, rfl, rfl, trivial⟩)) | (refine ⟨by omega, fun r hrr => ?_⟩; first | ((have hre : r = encS x := by (first | exact get_row hrr hx | fail)); subst hre) | ((have hre : r = encS z := by (first | exact get_row hrr hz | fail)); subst hre)) | (refine ⟨k + 1, ⟨?_, by (try dsimp only); omega⟩, [], ⟨⟨rfl, rfl⟩, ⟨⟨rfl, rfl⟩, ⟨⟨rfl, rfl⟩, ⟨⟨rfl, rfl⟩, ⟨⟨rfl, rfl⟩, ⟨⟨rfl, rfl⟩, ⟨⟨rfl, rfl⟩, trivial⟩⟩⟩⟩⟩⟩⟩, trivial, rfl, rfl, rfl⟩; (try dsimp only); omega) | (refine And.intro (And.intro (by omega) (by omega)) ?_) | fail | fail)
          · have hzx := hzb hr
            subst hzx
            repeat' ((conv => whnf); first | (refine ⟨fun h => ?_, fun h => ?_⟩ <;> try (exfalso; first | omega | exact absurd h (by decide) | exact h rfl | exact absurd (show true = false from h) (by decide) | exact absurd (show false = true from h) (by decide) | exact h ⟨rfl, rfl, rfl, trivial⟩)) | (refine ⟨by omega, fun r hrr => ?_⟩; first | ((have hre : r = encS z := by (first | exact get_row hrr hx | fail)); subst hre) | ((have hre : r = encS z := by (first | exact get_row hrr hz | fail)); subst hre)) | (refine ⟨k + 1, ⟨?_, by (try dsimp only); omega⟩, [], ⟨⟨rfl, rfl⟩, ⟨⟨rfl, rfl⟩, ⟨⟨rfl, rfl⟩, ⟨⟨rfl, rfl⟩, ⟨⟨rfl, rfl⟩, ⟨⟨rfl, rfl⟩, ⟨⟨rfl, rfl⟩, trivial⟩⟩⟩⟩⟩⟩⟩, trivial, rfl, rfl, rfl⟩; (try dsimp only); omega) | (refine And.intro (And.intro (by omega) (by omega)) ?_) | fail | fail)
        · repeat' ((conv => whnf); first | (refine ⟨fun h => ?_, fun h => ?_⟩ <;> try (exfalso; first | omega | exact absurd h (by decide) | exact h rfl | exact absurd (show true = false from h) (by decide) | exact absurd (show false = true from h) (by decide) | exact h ⟨rfl, rfl, rfl, trivial⟩)) | exact ⟨[], rfl, trivial, rfl⟩ | fail | fail)
      · have hbn := on_nil hB heb
        subst hbn
        repeat' ((conv => whnf); first | (refine ⟨fun h => ?_, fun h => ?_⟩ <;> try (exfalso; first | omega | exact absurd h (by decide) | exact h rfl | exact absurd (show true = false from h) (by decide) | exact absurd (show false = true from h) (by decide) | exact h ⟨rfl, rfl, rfl, trivial⟩)) | (refine ⟨_, alive_h, (), trivial, leVs_of_eq rfl, .inl rfl, rfl, ?_⟩; show norm (B true) _) | (refine ⟨_, rgt_h, l, (by show (l).length ≤ 9223372036854775807; omega), leVs_of_eq rfl, .inl rfl, rfl, ?_⟩; show norm (I (rightS l)) _; rw [h0]) | (refine ⟨_, gro_h, (l, run, t), hl64, leVs_of_eq rfl, .inl rfl, rfl, ?_⟩; show norm (resS (onS (groomS t) l run)) _; rw [hA]; show norm (.tup [L 3 ((([] : List Sf) : List Sf).map encS), I ea]) _) | (refine ⟨_, des_h, (l, run, n), ⟨hl64, htr⟩, leVs_of_eq rfl, .inl rfl, rfl, ?_⟩; show norm (resS (onS (descS n) l run)) _; rw [hB]; show norm (.tup [L 3 ((([] : List Sf) : List Sf).map encS), I eb]) _) | (refine And.intro (And.intro (by omega) (by omega)) ?_) | fail | fail)
        refine ⟨Nat, fun xq => ⟨[(0, L 3 (l.map encS)), (1, I run), (9, L 3 (([] : List Sf).map encS)), (10, I ea), (11, L 3 (([] : List Sf).map encS)), (12, I eb), (13, I xq)], [], 0⟩, fun xq => xq ≤ l.length, fun xq => l.length - xq, ⟨0, ?_, [], ⟨⟨rfl, rfl⟩, ⟨⟨rfl, rfl⟩, ⟨⟨rfl, rfl⟩, ⟨⟨rfl, rfl⟩, ⟨⟨rfl, rfl⟩, ⟨⟨rfl, rfl⟩, ⟨⟨rfl, rfl⟩, trivial⟩⟩⟩⟩⟩⟩⟩, trivial, rfl, rfl, rfl⟩, ?_⟩
        · (try dsimp only); exact Nat.zero_le _
        rintro k hk
        obtain hk : k ≤ l.length := hk
        (try dsimp only)
        by_cases hkl : k < l.length
        · obtain ⟨x, hx⟩ := getElem_some hkl
          by_cases hr : x.run = run
          · repeat' ((conv => whnf); first | (refine ⟨fun h => ?_, fun h => ?_⟩ <;> try (exfalso; first | omega | exact absurd h (by decide) | exact h rfl | exact absurd (show true = false from h) (by decide) | exact absurd (show false = true from h) (by decide) | exact h ⟨rfl, rfl, rfl, trivial⟩)) | (refine ⟨by omega, fun r hrr => ?_⟩; first | ((have hre : r = encS x := by (first | exact get_row hrr hx | fail)); subst hre)) | (refine ⟨k + 1, ⟨?_, by (try dsimp only); omega⟩, [], ⟨⟨rfl, rfl⟩, ⟨⟨rfl, rfl⟩, ⟨⟨rfl, rfl⟩, ⟨⟨rfl, rfl⟩, ⟨⟨rfl, rfl⟩, ⟨⟨rfl, rfl⟩, ⟨⟨rfl, rfl⟩, trivial⟩⟩⟩⟩⟩⟩⟩, trivial, rfl, rfl, rfl⟩; (try dsimp only); omega) | (refine And.intro (And.intro (by omega) (by omega)) ?_) | fail | fail)
          · repeat' ((conv => whnf); first | (refine ⟨fun h => ?_, fun h => ?_⟩ <;> try (exfalso; first | omega | exact absurd h (by decide) | exact h rfl | exact absurd (show true = false from h) (by decide) | exact absurd (show false = true from h) (by decide) | exact h ⟨rfl, rfl, rfl, trivial⟩)) | (refine ⟨by omega, fun r hrr => ?_⟩; first | ((have hre : r = encS x := by (first | exact get_row hrr hx | fail)); subst hre)) | (refine ⟨k + 1, ⟨?_, by (try dsimp only); omega⟩, [], ⟨⟨rfl, rfl⟩, ⟨⟨rfl, rfl⟩, ⟨⟨rfl, rfl⟩, ⟨⟨rfl, rfl⟩, ⟨⟨rfl, rfl⟩, ⟨⟨rfl, rfl⟩, ⟨⟨rfl, rfl⟩, trivial⟩⟩⟩⟩⟩⟩⟩, trivial, rfl, rfl, rfl⟩; (try dsimp only); omega) | (refine And.intro (And.intro (by omega) (by omega)) ?_) | fail | fail)
        · repeat' ((conv => whnf); first | (refine ⟨fun h => ?_, fun h => ?_⟩ <;> try (exfalso; first | omega | exact absurd h (by decide) | exact h rfl | exact absurd (show true = false from h) (by decide) | exact absurd (show false = true from h) (by decide) | exact h ⟨rfl, rfl, rfl, trivial⟩)) | exact ⟨[], rfl, trivial, rfl⟩ | fail | fail)
  · repeat' ((conv => whnf); first | (refine ⟨fun h => ?_, fun h => ?_⟩ <;> try (exfalso; first | omega | exact absurd h (by decide) | exact h rfl | exact absurd (show true = false from h) (by decide) | exact absurd (show false = true from h) (by decide) | exact h ⟨rfl, rfl, rfl, trivial⟩)) | (refine ⟨_, alive_h, (), trivial, leVs_of_eq rfl, .inl rfl, rfl, ?_⟩; show norm (B true) _) | (refine ⟨_, rgt_h, l, (by show (l).length ≤ 9223372036854775807; omega), leVs_of_eq rfl, .inl rfl, rfl, ?_⟩; show norm (I (rightS l)) _; rw [h0]) | exact ⟨[], rfl, trivial, rfl⟩ | fail)
theorem law_h : Holds Try.prog 9 lawS := holds_of mix Try.func9 lawLow (fun _ => rfl) lawV

/-! ### THE ROW's STEP -/
theorem own : ownKnob Try.prog.godebug = none := by kernel_rfl
theorem laidOut : laidOutB Try.prog = true := by kernel_rfl
set_option maxRecDepth 100000 in
theorem lifted (os : Os) (started : os.Started) (H : Type) (enc : TypeId × Value → H) :
    ReturnsInHanded {} Try.checked os 9 .any (Rows.surfaceOthersSpec.pre6 enc Try.prog Try.f9 Rows.surfaceOthersRow.domain false) (Rows.surfaceOthersSpec.post enc Try.prog Try.f9 false true false false) := by
  refine returnsInHanded_of_change (C := Try.checked) own started (by kernel_rfl) Try.func9
    (ChangeSpec.witness6 (enc := enc) (C := Try.checked) false ⟨#[], #[.slice none 0 0, .int .i64 0, .int .i64 0, .int .i64 0], []⟩ 8 (by kernel_rfl) (by kernel_rfl) (by kernel_rfl) (by kernel_rfl)) ?_
  intro W base args ds gs before hval0 hW hcnd _
  have hval : ∀ (j : Nat) t v, Try.f9.params[j]? = some t → args[j]? = some v → Value.okWide Try.prog W .any base t v := hval0
  have hW' := hW
  obtain ⟨p, q, hA0, hV, rfl, hfz, hnd⟩ := hW
  have hA : DataW.TrodAll enc Try.prog W 0 (fun _ => true) true Try.f9.params.toList args.toList ds p := hA0
  rw [Try.params9] at hA hval
  obtain ⟨v0, vs0, d0, ds0, p0, q0, hargs, rfl, rfl, h0, r0⟩ := trodAll_cons hA
  obtain ⟨v1, vs1, d1, ds1, p1, q1, rfl, rfl, rfl, h1, r1⟩ := trodAll_cons r0
  obtain ⟨v2, vs2, d2, ds2, p2, q2, rfl, rfl, rfl, h2, r2⟩ := trodAll_cons r1
  obtain ⟨v3, vs3, d3, ds3, p3, q3, rfl, rfl, rfl, h3, r3⟩ := trodAll_cons r2
  obtain ⟨rfl, rfl, rfl⟩ := trodAll_nil r3
  obtain rfl : args = #[v0, v1, v2, v3] := by cases args; simp_all
  obtain ⟨rfl, rfl⟩ := trodVars_none hV
  have lt0 : ∀ x ∈ p0, x.block < W.heap.size := by obtain ⟨m, hm⟩ := h0; exact DataW.trod_lt m _ _ _ hm
  obtain ⟨z0, w0, x0⟩ := openS (hval 0 22 v0 rfl rfl) h0
  have lt1 : ∀ x ∈ p1, x.block < W.heap.size := by obtain ⟨m, hm⟩ := h1; exact DataW.trod_lt m _ _ _ hm
  obtain ⟨z1, w1, x1⟩ := open_i Try.underlying3 (hval 1 3 v1 rfl rfl) h1
  have lt2 : ∀ x ∈ p2, x.block < W.heap.size := by obtain ⟨m, hm⟩ := h2; exact DataW.trod_lt m _ _ _ hm
  obtain ⟨z2, w2, x2⟩ := open_i Try.underlying3 (hval 2 3 v2 rfl rfl) h2
  have lt3 : ∀ x ∈ p3, x.block < W.heap.size := by obtain ⟨m, hm⟩ := h3; exact DataW.trod_lt m _ _ _ hm
  obtain ⟨z3, w3, x3⟩ := open_i Try.underlying3 (hval 3 3 v3 rfl rfl) h3
  clear hA0 hval0
  refine Calls.mono (law_calls law_h (z0, z1, z2, z3) w0.1 rfl (vs := [v0, v1, v2, v3]) (replist_mk x0 (replist_mk x1 (replist_mk x2 (replist_mk x3 replist_mk0))))) fun e W' ⟨he, bel⟩ => ?_
  subst he
  exact ⟨_, rfl, _, _, _, [], _, [], hW', trodAll_mk1 (shut_bool Try.underlying4 _), (trodAll_cons_mk (Below.trod laidOut (by kernel_rfl) (of_decide_eq_true (by kernel_rfl)) h0 bel lt0) (trodAll_cons_mk (Below.trod laidOut (by kernel_rfl) (of_decide_eq_true (by kernel_rfl)) h1 bel lt1) (trodAll_cons_mk (Below.trod laidOut (by kernel_rfl) (of_decide_eq_true (by kernel_rfl)) h2 bel lt2) (trodAll_cons_mk (Below.trod laidOut (by kernel_rfl) (of_decide_eq_true (by kernel_rfl)) h3 bel lt3) trodAll_mk0)))), rfl, bel.frame _, fun h => by cases h⟩

theorem over : Rows.surfaceOthersRow.holds Try.pinned (OpenSpec.ofChange Rows.surfaceOthersSpec) :=
  OpenClaim.holds_of_wide 9 Try.f9 rfl rfl rfl rfl rfl rfl rfl ⟨rfl, rfl, rfl, rfl, rfl⟩ rfl rfl rfl rfl rfl (by kernel_rfl) Try.func9 (by kernel_rfl)
    (of_decide_eq_true (by kernel_rfl)) (by unfold Func.isWrapper; first | (rw [if_pos (by decide +kernel)]; kernel_rfl) | (rw [if_neg (by decide +kernel)]; exact ⟨rfl, rfl⟩))
    (fun os started H enc _ => lifted os started H enc)

theorem proved : Rows.SurfaceOthersSaid := over
end Go.Proofs.Ytgjcoebfiangcaa.lawOthers
