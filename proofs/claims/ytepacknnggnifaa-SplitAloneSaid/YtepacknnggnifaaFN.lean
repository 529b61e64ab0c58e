/- Split: Add. -/
import Derived.Test.YtepacknnggnifaaPB
import Derived.Test.YtepacknnggnifaaFJ
import Derived.Test.YtepacknnggnifaaF8
namespace Go.Proofs.Ytepacknnggnifaa
open Go.RowKit

def addT (a b : List Share) : SV := .tup [L 2 ((if addO [] (a ++ b) then fewL (a ++ b) else []).map encS), I (if addO [] (a ++ b) then 0 else 12)]
def okO (x : Share) : Prop := (Lit.int .i64 x.o).wf = true
def preS (a b : List Share) : Nat → List Share
  | 0 => []
  | 1 => a
  | _ => a ++ b
def postS (a b : List Share) : Nat → List Share
  | 0 => a ++ b
  | 1 => b
  | _ => []
def fewK (p : List Share) (l : List Int) : List Share := (l.map fun o => (⟨o, amt p o⟩ : Share)).filter fun x => decide (x.a ≠ 0)
theorem fewK_all (p : List Share) : fewK p (keysL p) = fewL p := rfl
theorem fewK_no {p : List Share} {l : List Int} {k : Nat} {o : Int} (h : l[k]? = some o) (h0 : amt p o = 0) : fewK p (l.take (k + 1)) = fewK p (l.take k) := by
  rw [take_snoc l k o h, fewK, fewK, List.map_append, List.filter_append]; simp [h0]
theorem fewK_yes {p : List Share} {l : List Int} {k : Nat} {o : Int} (h : l[k]? = some o) (h0 : ¬ amt p o = 0) : fewK p (l.take (k + 1)) = fewK p (l.take k) ++ [⟨o, amt p o⟩] := by
  rw [take_snoc l k o h, fewK, fewK, List.map_append, List.filter_append]; simp [h0]
theorem fewK_len (p : List Share) (l : List Int) : (fewK p l).length ≤ l.length := by
  refine Nat.le_trans (List.length_filter_le _ _) ?_
  rw [List.length_map]; exact Nat.le_refl _
theorem kv_head (f : Int → Int) (ks : List Int) : ((kvOf f ks).map fun p => headI p.1) = ks := by
  rw [kvOf, List.map_map]; exact List.map_id' _
theorem get_share {l : List Share} {k : Nat} {x : Share} (h : l[k]? = some x) : (l.map encS)[k]? = some (encS x) := by rw [List.getElem?_map, h]; rfl

/-! skiarea/split.Add -/
def addIr : IFn := ⟨71, [.tmp 4, .tmp 5],
  (.seq (.ops [
    ⟨(some 4), .mov, [.const (.slice none 0 0)], none⟩,
    ⟨(some 5), .mov, [.const (.int .i64 0)], none⟩] false)
  (.seq (.ops [
    ⟨(some 16), .mkmap 0 false, [], none⟩,
    ⟨(some 6), .mov, [.tmp 16], none⟩] false)
  (.seq (.seq (.ops [
    ⟨(some 17), .mov, [.tmp 0], none⟩,
    ⟨(some 18), .mov, [.tmp 1], none⟩,
    ⟨(some 19), .buildSl 32 1, [.tmp 17, .tmp 18], none⟩,
    ⟨(some 20), .len, [.tmp 19], none⟩,
    ⟨(some 21), .mov, [.const (.int .i64 0)], none⟩] false)
  (.block 0
    (.loop
      (.seq (.ops [
        ⟨(some 22), .cmp .lss, [.tmp 21, .tmp 20], none⟩] false)
      (.seq (.cond (.tmp 22)
        .skip
        (.exit 0))
      (.seq (.block 1
        (.seq (.ops [
          ⟨(some 23), .idx 1, [.tmp 19, .tmp 21], none⟩,
          ⟨(some 24), .load 1 false, [.tmp 23], none⟩,
          ⟨(some 8), .mov, [.tmp 24], none⟩] false)
        (.seq (.ops [
          ⟨(some 25), .mov, [.tmp 8], none⟩,
          ⟨(some 26), .len, [.tmp 25], none⟩,
          ⟨(some 27), .mov, [.const (.int .i64 0)], none⟩] false)
        (.block 2
          (.loop
            (.seq (.ops [
              ⟨(some 28), .cmp .lss, [.tmp 27, .tmp 26], none⟩] false)
            (.seq (.cond (.tmp 28)
              .skip
              (.exit 2))
            (.seq (.block 3
              (.seq (.ops [
                ⟨(some 29), .idx 2, [.tmp 25, .tmp 27], none⟩,
                ⟨(some 30), .load 2 true, [.tmp 29], none⟩,
                ⟨(some 10), .alloc [.int .i64 0, .int .i64 0], [], none⟩,
                ⟨none, .store 2, [.tmp 10, .tmp 30], none⟩] false)
              (.seq (.ops [
                ⟨(some 32), .mov, [.tmp 6], none⟩,
                ⟨(some 33), .faddr 0, [.tmp 10], none⟩,
                ⟨(some 34), .load 1 false, [.tmp 33], none⟩,
                ⟨(some 35), .lookup [.int .i64 0] 0 false false, [.tmp 32, .tmp 34], none⟩,
                ⟨(some 36), .faddr 1, [.tmp 10], none⟩,
                ⟨(some 37), .load 1 false, [.tmp 36], none⟩,
                ⟨(some 38), .call 30, [.tmp 35, .tmp 37], none⟩,
                ⟨(some 31), .mov, [.tmp 38], none⟩,
                ⟨(some 39), .extract 0, [.tmp 31], none⟩,
                ⟨(some 40), .extract 1, [.tmp 31], none⟩,
                ⟨(some 11), .mov, [.tmp 39], none⟩,
                ⟨(some 12), .mov, [.tmp 40], none⟩] false)
              (.seq (.seq (.ops [
                ⟨(some 41), .mov, [.tmp 12], none⟩,
                ⟨(some 42), .not, [.tmp 41], none⟩] false)
              (.cond (.tmp 42)
                (.seq (.ops [
                  ⟨(some 4), .mov, [.const (.slice none 0 0)], none⟩,
                  ⟨(some 5), .mov, [.const (.int .i64 12)], none⟩] false)
                .ret)
                .skip))
              (.ops [
                ⟨(some 43), .mov, [.tmp 6], none⟩,
                ⟨(some 44), .faddr 0, [.tmp 10], none⟩,
                ⟨(some 45), .load 1 false, [.tmp 44], none⟩,
                ⟨(some 46), .mov, [.tmp 11], none⟩,
                ⟨none, .mapset 0 false, [.tmp 43, .tmp 45, .tmp 46], none⟩] false)))))
            (.ops [
              ⟨(some 47), .bin .add .i64 false, [.tmp 27, .const (.int .i64 1)], none⟩,
              ⟨(some 27), .mov, [.tmp 47], none⟩] false)))))))))
      (.ops [
        ⟨(some 48), .bin .add .i64 false, [.tmp 21, .const (.int .i64 1)], none⟩,
        ⟨(some 21), .mov, [.tmp 48], none⟩] false)))))))
  (.seq (.ops [
    ⟨(some 13), .nilOwn 41 2, [], none⟩] false)
  (.seq (.seq (.ops [
    ⟨(some 49), .mov, [.tmp 6], none⟩,
    ⟨(some 50), .callx 32, [.tmp 49], none⟩,
    ⟨(some 51), .callx 31, [.tmp 50], none⟩,
    ⟨(some 52), .len, [.tmp 51], none⟩,
    ⟨(some 53), .mov, [.const (.int .i64 0)], none⟩] false)
  (.block 4
    (.loop
      (.seq (.ops [
        ⟨(some 54), .cmp .lss, [.tmp 53, .tmp 52], none⟩] false)
      (.seq (.cond (.tmp 54)
        .skip
        (.exit 4))
      (.seq (.block 5
        (.seq (.ops [
          ⟨(some 55), .idx 1, [.tmp 51, .tmp 53], none⟩,
          ⟨(some 56), .load 1 false, [.tmp 55], none⟩,
          ⟨(some 15), .mov, [.tmp 56], none⟩] false)
        (.seq (.ops [
          ⟨(some 57), .mov, [.tmp 6], none⟩,
          ⟨(some 58), .mov, [.tmp 15], none⟩,
          ⟨(some 59), .lookup [.int .i64 0] 0 false false, [.tmp 57, .tmp 58], none⟩,
          ⟨(some 60), .cmp .neq, [.tmp 59, .const (.int .i64 0)], none⟩] false)
        (.cond (.tmp 60)
          (.ops [
            ⟨(some 61), .mov, [.tmp 13], none⟩,
            ⟨(some 62), .mov, [.tmp 15], none⟩,
            ⟨(some 63), .mov, [.tmp 6], none⟩,
            ⟨(some 64), .mov, [.tmp 15], none⟩,
            ⟨(some 65), .lookup [.int .i64 0] 0 false false, [.tmp 63, .tmp 64], none⟩,
            ⟨(some 66), .build [.int .i64 0, .int .i64 0] [(0, 1), (1, 1)], [.tmp 62, .tmp 65], none⟩,
            ⟨(some 67), .buildSl 41 2, [.tmp 66], none⟩,
            ⟨(some 68), .append 41 2 16, [.tmp 61, .tmp 67], none⟩,
            ⟨(some 13), .mov, [.tmp 68], none⟩] false)
          .skip))))
      (.ops [
        ⟨(some 69), .bin .add .i64 false, [.tmp 53, .const (.int .i64 1)], none⟩,
        ⟨(some 53), .mov, [.tmp 69], none⟩] false)))))))
  (.seq (.ops [
    ⟨(some 70), .mov, [.tmp 13], none⟩,
    ⟨(some 4), .mov, [.tmp 70], none⟩,
    ⟨(some 5), .mov, [.const (.int .i64 0)], none⟩] false)
  .ret))))))⟩
theorem addLow : lowF Try.prog { exts := [50, 51], owns := [(13, 41)] } Try.f18 = some addIr := by kernel_rfl
def addS : Spec := spec (List Share × List Share) (fun p => [L 2 (p.1.map encS), L 2 (p.2.map encS)]) (fun p => (p.1.length ≤ 100000 ∧ p.2.length ≤ 100000) ∧ ∀ x ∈ p.1 ++ p.2, okO x) (fun p => addT p.1 p.2)
theorem addV : fnV Try.prog addIr addS := by
  intro ⟨(a : List Share), (b : List Share)⟩ hx
  obtain ⟨⟨la, lb⟩, hok⟩ : (a.length ≤ 100000 ∧ b.length ≤ 100000) ∧ ∀ x ∈ a ++ b, okO x := hx
  show vc _ _ _ _ ⟨argEnv 0 [L 2 (a.map encS), L 2 (b.map encS)], [], 0⟩
  repeat' ((conv => whnf); first | (refine ⟨fun h => ?_, fun h => ?_⟩ <;> try (exfalso; first | omega | exact absurd h (by decide) | exact h rfl)) | refine ⟨⟨by omega, by omega⟩, ?_⟩ | fail | fail)
  refine ⟨Nat × (List (List Int × List CV)), fun xq => ⟨[(6, .mp 0), (19, L 1 [[CV.sl 2 (a.map encS)], [CV.sl 2 (b.map encS)]]), (20, I 2), (21, I xq.1)], [(0, .map 0 false xq.2)], 1⟩, fun xq => ∃ ks, xq.1 ≤ 2 ∧ Sums (preS a b xq.1) ks ∧ xq.2 = kvOf (amt (preS a b xq.1)) ks ∧ addO (preS a b xq.1) (postS a b xq.1) = addO [] (a ++ b), fun xq => 2 - xq.1, ⟨(0, _), ?_, [], ⟨⟨rfl, rfl⟩, ⟨⟨rfl, rfl⟩, ⟨⟨rfl, rfl⟩, ⟨⟨rfl, rfl⟩, trivial⟩⟩⟩⟩, ⟨⟨rfl, rfl, rfl⟩, trivial⟩, rfl, rfl, rfl⟩, ?_⟩
  · (try dsimp only); exact ⟨[], by omega, Sums.nil, rfl, rfl⟩
  rintro ⟨t, kv⟩ hk
  obtain ⟨ks, ht, hs, rfl, hadd⟩ : ∃ ks, t ≤ 2 ∧ Sums (preS a b t) ks ∧ kv = kvOf (amt (preS a b t)) ks ∧ addO (preS a b t) (postS a b t) = addO [] (a ++ b) := hk
  (try dsimp only)
  have htt : t = 0 ∨ t = 1 ∨ t = 2 := by omega
  rcases htt with rfl | rfl | rfl
  · change Sums [] ks at hs
    change addO [] (a ++ b) = _ at hadd
    repeat' ((conv => whnf); first | (refine ⟨fun h => ?_, fun h => ?_⟩ <;> try (exfalso; first | omega | exact absurd h (by decide) | exact h rfl)) | (refine ⟨(by simp), fun r hr => ?_⟩; (have hre : [CV.sl 2 (a.map encS)] = r := by (first | exact Option.some.inj hr | fail)); subst hre) | refine ⟨⟨by omega, by omega⟩, ?_⟩ | fail | fail)
    refine ⟨Nat × (List (List Int × List CV)), fun xq => ⟨[(6, .mp 0), (19, L 1 [[CV.sl 2 (a.map encS)], [CV.sl 2 (b.map encS)]]), (20, I 2), (21, I 0), (25, L 2 (a.map encS)), (26, I (a.map encS).length), (27, I xq.1)], [(0, .map 0 false xq.2)], 1⟩, fun xq => ∃ ks, xq.1 ≤ a.length ∧ Sums ([] ++ a.take xq.1) ks ∧ xq.2 = kvOf (amt ([] ++ a.take xq.1)) ks ∧ addO ([] ++ a.take xq.1) (a.drop xq.1 ++ b) = addO [] (a ++ b), fun xq => a.length - xq.1, ⟨(0, _), ?_, [], ⟨⟨rfl, rfl⟩, ⟨⟨rfl, rfl⟩, ⟨⟨rfl, rfl⟩, ⟨⟨rfl, rfl⟩, ⟨⟨rfl, rfl⟩, ⟨⟨rfl, rfl⟩, ⟨⟨rfl, rfl⟩, trivial⟩⟩⟩⟩⟩⟩⟩, ⟨⟨rfl, rfl, rfl⟩, trivial⟩, rfl, rfl, rfl⟩, ?_⟩
    · (try dsimp only); exact ⟨ks, Nat.zero_le _, by rw [List.take_zero, List.append_nil]; exact hs, by rw [List.take_zero, List.append_nil]; rfl, by rw [List.take_zero, List.append_nil]; exact hadd⟩
    rintro ⟨k, kv⟩ hk
    obtain ⟨ks, hk, hs, rfl, hadd⟩ : ∃ ks, k ≤ a.length ∧ Sums ([] ++ a.take k) ks ∧ kv = kvOf (amt ([] ++ a.take k)) ks ∧ addO ([] ++ a.take k) (a.drop k ++ b) = addO [] (a ++ b) := hk
    (try dsimp only)
    have hla : (a.map encS).length = a.length := List.length_map ..
    by_cases hkl : k < a.length
    · obtain ⟨x, hx⟩ := getElem_some hkl
      rw [drop_of hx, List.cons_append] at hadd
      obtain ⟨b0, b1⟩ := hs.bnd x.o
      cases hp : plusF (amt ([] ++ a.take k) x.o) x.a with
      | none =>
        have hbad := addO_bad hadd hp
        repeat' ((conv => whnf); first | refine look_kv (fun hn => hs.zero hn) ?_ | (refine ⟨fun h => ?_, fun h => ?_⟩ <;> try (exfalso; first | omega | exact absurd h (by decide) | exact h rfl)) | (refine ⟨_, plus_h, (amt ([] ++ a.take k) x.o, x.a), ⟨b0, b1⟩, leVs_of_eq rfl, .inl rfl, rfl, ?_⟩; show norm (optT (plusF (amt ([] ++ a.take k) x.o) x.a)) _; rw [hp]) | (refine ⟨by omega, fun r hrr => ?_⟩; (have hre : r = encS x := by (first | exact get_row hrr hx | fail)); subst hre) | fail | fail)
        all_goals (refine ⟨[], rfl, trivial, ?_⟩; show leR _ (addT a b); unfold addT; rw [hbad]; exact ⟨rfl, rfl, trivial⟩)
      | some v =>
        obtain ⟨ks', hs', hset⟩ := hs.step hp
        have hadd' := addO_step hadd hp
        rw [List.append_assoc, ← take_snoc a k x hx] at hs' hset hadd'
        repeat' ((conv => whnf); first | refine look_kv (fun hn => hs.zero hn) ?_ | (refine ⟨fun h => ?_, fun h => ?_⟩ <;> try (exfalso; first | omega | exact absurd h (by decide) | exact h rfl)) | (refine ⟨_, plus_h, (amt ([] ++ a.take k) x.o, x.a), ⟨b0, b1⟩, leVs_of_eq rfl, .inl rfl, rfl, ?_⟩; show norm (optT (plusF (amt ([] ++ a.take k) x.o) x.a)) _; rw [hp]) | (refine ⟨(k + 1, _), ⟨?_, by (try dsimp only); omega⟩, [], ⟨⟨rfl, rfl⟩, ⟨⟨rfl, rfl⟩, ⟨⟨rfl, rfl⟩, ⟨⟨rfl, rfl⟩, ⟨⟨rfl, rfl⟩, ⟨⟨rfl, rfl⟩, ⟨⟨rfl, rfl⟩, trivial⟩⟩⟩⟩⟩⟩⟩, ⟨⟨rfl, rfl, rfl⟩, trivial⟩, rfl, rfl, rfl⟩; (try dsimp only); exact ⟨ks', by omega, hs', hset, hadd'⟩) | (refine ⟨by omega, fun r hrr => ?_⟩; (have hre : r = encS x := by (first | exact get_row hrr hx | fail)); subst hre) | refine ⟨⟨by omega, by omega⟩, ?_⟩ | fail)
    · rw [drop_end hkl, List.nil_append] at hadd
      rw [take_end hkl] at hs hadd ⊢
      repeat' ((conv => whnf); first | (refine ⟨fun h => ?_, fun h => ?_⟩ <;> try (exfalso; first | omega | exact absurd h (by decide) | exact h rfl)) | (refine ⟨(1, _), ⟨?_, by (try dsimp only); omega⟩, [], ⟨⟨rfl, rfl⟩, ⟨⟨rfl, rfl⟩, ⟨⟨rfl, rfl⟩, ⟨⟨rfl, rfl⟩, trivial⟩⟩⟩⟩, ⟨⟨rfl, rfl, rfl⟩, trivial⟩, rfl, rfl, rfl⟩; (try dsimp only); exact ⟨ks, by omega, hs, rfl, hadd⟩) | refine ⟨⟨by omega, by omega⟩, ?_⟩ | fail)
  · change Sums a ks at hs
    change addO a b = _ at hadd
    replace hadd : addO a (b ++ []) = addO [] (a ++ b) := by rw [List.append_nil]; exact hadd
    repeat' ((conv => whnf); first | (refine ⟨fun h => ?_, fun h => ?_⟩ <;> try (exfalso; first | omega | exact absurd h (by decide) | exact h rfl)) | (refine ⟨(by simp), fun r hr => ?_⟩; (have hre : [CV.sl 2 (b.map encS)] = r := by (first | exact Option.some.inj hr | fail)); subst hre) | refine ⟨⟨by omega, by omega⟩, ?_⟩ | fail | fail)
    refine ⟨Nat × (List (List Int × List CV)), fun xq => ⟨[(6, .mp 0), (19, L 1 [[CV.sl 2 (a.map encS)], [CV.sl 2 (b.map encS)]]), (20, I 2), (21, I 1), (25, L 2 (b.map encS)), (26, I (b.map encS).length), (27, I xq.1)], [(0, .map 0 false xq.2)], 1⟩, fun xq => ∃ ks, xq.1 ≤ b.length ∧ Sums (a ++ b.take xq.1) ks ∧ xq.2 = kvOf (amt (a ++ b.take xq.1)) ks ∧ addO (a ++ b.take xq.1) (b.drop xq.1 ++ []) = addO [] (a ++ b), fun xq => b.length - xq.1, ⟨(0, _), ?_, [], ⟨⟨rfl, rfl⟩, ⟨⟨rfl, rfl⟩, ⟨⟨rfl, rfl⟩, ⟨⟨rfl, rfl⟩, ⟨⟨rfl, rfl⟩, ⟨⟨rfl, rfl⟩, ⟨⟨rfl, rfl⟩, trivial⟩⟩⟩⟩⟩⟩⟩, ⟨⟨rfl, rfl, rfl⟩, trivial⟩, rfl, rfl, rfl⟩, ?_⟩
    · (try dsimp only); exact ⟨ks, Nat.zero_le _, by rw [List.take_zero, List.append_nil]; exact hs, by rw [List.take_zero, List.append_nil]; rfl, by rw [List.take_zero, List.append_nil]; exact hadd⟩
    rintro ⟨k, kv⟩ hk
    obtain ⟨ks, hk, hs, rfl, hadd⟩ : ∃ ks, k ≤ b.length ∧ Sums (a ++ b.take k) ks ∧ kv = kvOf (amt (a ++ b.take k)) ks ∧ addO (a ++ b.take k) (b.drop k ++ []) = addO [] (a ++ b) := hk
    (try dsimp only)
    have hlb : (b.map encS).length = b.length := List.length_map ..
    by_cases hkl : k < b.length
    · obtain ⟨x, hx⟩ := getElem_some hkl
      rw [drop_of hx, List.cons_append] at hadd
      obtain ⟨b0, b1⟩ := hs.bnd x.o
      cases hp : plusF (amt (a ++ b.take k) x.o) x.a with
      | none =>
        have hbad := addO_bad hadd hp
        repeat' ((conv => whnf); first | refine look_kv (fun hn => hs.zero hn) ?_ | (refine ⟨fun h => ?_, fun h => ?_⟩ <;> try (exfalso; first | omega | exact absurd h (by decide) | exact h rfl)) | (refine ⟨_, plus_h, (amt (a ++ b.take k) x.o, x.a), ⟨b0, b1⟩, leVs_of_eq rfl, .inl rfl, rfl, ?_⟩; show norm (optT (plusF (amt (a ++ b.take k) x.o) x.a)) _; rw [hp]) | (refine ⟨by omega, fun r hrr => ?_⟩; (have hre : r = encS x := by (first | exact get_row hrr hx | fail)); subst hre) | fail | fail)
        all_goals (refine ⟨[], rfl, trivial, ?_⟩; show leR _ (addT a b); unfold addT; rw [hbad]; exact ⟨rfl, rfl, trivial⟩)
      | some v =>
        obtain ⟨ks', hs', hset⟩ := hs.step hp
        have hadd' := addO_step hadd hp
        rw [List.append_assoc, ← take_snoc b k x hx] at hs' hset hadd'
        repeat' ((conv => whnf); first | refine look_kv (fun hn => hs.zero hn) ?_ | (refine ⟨fun h => ?_, fun h => ?_⟩ <;> try (exfalso; first | omega | exact absurd h (by decide) | exact h rfl)) | (refine ⟨_, plus_h, (amt (a ++ b.take k) x.o, x.a), ⟨b0, b1⟩, leVs_of_eq rfl, .inl rfl, rfl, ?_⟩; show norm (optT (plusF (amt (a ++ b.take k) x.o) x.a)) _; rw [hp]) | (refine ⟨(k + 1, _), ⟨?_, by (try dsimp only); omega⟩, [], ⟨⟨rfl, rfl⟩, ⟨⟨rfl, rfl⟩, ⟨⟨rfl, rfl⟩, ⟨⟨rfl, rfl⟩, ⟨⟨rfl, rfl⟩, ⟨⟨rfl, rfl⟩, ⟨⟨rfl, rfl⟩, trivial⟩⟩⟩⟩⟩⟩⟩, ⟨⟨rfl, rfl, rfl⟩, trivial⟩, rfl, rfl, rfl⟩; (try dsimp only); exact ⟨ks', by omega, hs', hset, hadd'⟩) | (refine ⟨by omega, fun r hrr => ?_⟩; (have hre : r = encS x := by (first | exact get_row hrr hx | fail)); subst hre) | refine ⟨⟨by omega, by omega⟩, ?_⟩ | fail)
    · rw [drop_end hkl, List.nil_append] at hadd
      rw [take_end hkl] at hs hadd ⊢
      repeat' ((conv => whnf); first | (refine ⟨fun h => ?_, fun h => ?_⟩ <;> try (exfalso; first | omega | exact absurd h (by decide) | exact h rfl)) | (refine ⟨(2, _), ⟨?_, by (try dsimp only); omega⟩, [], ⟨⟨rfl, rfl⟩, ⟨⟨rfl, rfl⟩, ⟨⟨rfl, rfl⟩, ⟨⟨rfl, rfl⟩, trivial⟩⟩⟩⟩, ⟨⟨rfl, rfl, rfl⟩, trivial⟩, rfl, rfl, rfl⟩; (try dsimp only); exact ⟨ks, by omega, hs, rfl, hadd⟩) | refine ⟨⟨by omega, by omega⟩, ?_⟩ | fail)
  · change Sums (a ++ b) ks at hs
    change addO (a ++ b) [] = _ at hadd
    have hgood : addO [] (a ++ b) = true := by rw [← hadd]; rfl
    have hz := sorted_keys hs.nd hs.mem
    have hkl := keysL_len (a ++ b)
    rw [List.length_append] at hkl
    have hksl : (kvOf (amt (a ++ b)) ks).length ≤ 1000000 := by have := hs.len; rw [List.length_append] at this; rw [kvOf, List.length_map]; omega
    have hks : ∀ p ∈ kvOf (amt (a ++ b)) ks, ∃ n : Int, p.1 = [n] ∧ (Lit.int .i64 n).wf = true := by
      intro p hp
      obtain ⟨o, ho, rfl⟩ := List.mem_map.1 hp
      obtain ⟨x, hx, rfl⟩ := List.mem_map.1 ((hs.mem o).1 ho)
      exact ⟨_, rfl, hok x hx⟩
    have hnd : ((kvOf (amt (a ++ b)) ks).map fun p => headI p.1).Nodup := by rw [kv_head]; exact hs.nd
    have hz' : keysL (a ++ b) = ((kvOf (amt (a ++ b)) ks).map fun p => headI p.1).mergeSort Go.leI := by rw [kv_head]; exact hz
    repeat' ((conv => whnf); first | (refine ⟨fun h => ?_, fun h => ?_⟩ <;> try (exfalso; first | omega | exact absurd h (by decide) | exact h rfl)) | refine keys_x _ _ rfl _ ?_ | refine sorted_x _ _ _ rfl rfl hksl hks hnd (keysL (a ++ b)) hz' _ ?_ | fail | fail)
    refine ⟨Nat × (List (List CV)), fun xq => ⟨[(6, .mp 0), (13, .osl 1), (51, .osl 2), (52, I ((keysL (a ++ b)).map fun n => [CV.int .i64 n]).length), (53, I xq.1)], [(0, .map 0 false (kvOf (amt (a ++ b)) ks)), (1, .row 41 2 xq.2), (2, .row 3 1 ((keysL (a ++ b)).map fun n => [CV.int .i64 n]))], 3⟩, fun xq => xq.1 ≤ (keysL (a ++ b)).length ∧ xq.2 = (fewK (a ++ b) ((keysL (a ++ b)).take xq.1)).map encS, fun xq => (keysL (a ++ b)).length - xq.1, ⟨(0, _), ?_, [(0, 0), (1, 1), (2, 3)], ⟨⟨rfl, rfl⟩, ⟨⟨rfl, rfl⟩, ⟨⟨rfl, rfl⟩, ⟨⟨rfl, rfl⟩, ⟨⟨rfl, rfl⟩, trivial⟩⟩⟩⟩⟩, ⟨⟨rfl, rfl, rfl⟩, ⟨⟨rfl, rfl, rfl⟩, ⟨⟨rfl, rfl, rfl⟩, trivial⟩⟩⟩, rfl, rfl, rfl⟩, ?_⟩
    · (try dsimp only); exact ⟨Nat.zero_le _, rfl⟩
    rintro ⟨k, es⟩ hk
    obtain ⟨hk, rfl⟩ : k ≤ (keysL (a ++ b)).length ∧ es = (fewK (a ++ b) ((keysL (a ++ b)).take k)).map encS := hk
    (try dsimp only)
    have hlz : ((keysL (a ++ b)).map fun n => [CV.int .i64 n]).length = (keysL (a ++ b)).length := List.length_map ..
    have hfl := fewK_len (a ++ b) ((keysL (a ++ b)).take k)
    have hfl1 : ((fewK (a ++ b) ((keysL (a ++ b)).take k)).map encS).length = (fewK (a ++ b) ((keysL (a ++ b)).take k)).length := List.length_map ..
    rw [List.length_take] at hfl
    by_cases hkk : k < (keysL (a ++ b)).length
    · obtain ⟨o, ho⟩ := getElem_some hkk
      have gk : ((keysL (a ++ b)).map fun n => [CV.int .i64 n])[(k : Int).toNat]? = some [.int .i64 o] := by rw [Int.toNat_natCast, List.getElem?_map, ho]; rfl
      by_cases h0 : amt (a ++ b) o = 0
      · have hst := fewK_no ho h0
        repeat' ((conv => whnf); first | refine look_kv (fun hn => hs.zero hn) ?_ | (refine ⟨fun h => ?_, fun h => ?_⟩ <;> try (exfalso; first | omega | exact absurd h (by decide) | exact h rfl)) | refine get_at gk ?_ | (refine ⟨(k + 1, _), ⟨?_, by (try dsimp only); omega⟩, [], ⟨⟨rfl, rfl⟩, ⟨⟨rfl, rfl⟩, ⟨⟨rfl, rfl⟩, ⟨⟨rfl, rfl⟩, ⟨⟨rfl, rfl⟩, trivial⟩⟩⟩⟩⟩, ⟨⟨rfl, rfl, rfl⟩, ⟨⟨rfl, rfl, rfl⟩, ⟨⟨rfl, rfl, rfl⟩, trivial⟩⟩⟩, rfl, rfl, rfl⟩; (try dsimp only); exact ⟨by omega, by rw [hst]⟩) | refine ⟨⟨by omega, by omega⟩, ?_⟩ | fail)
      · have hst := fewK_yes ho h0
        repeat' ((conv => whnf); first | refine look_kv (fun hn => hs.zero hn) ?_ | (refine ⟨fun h => ?_, fun h => ?_⟩ <;> try (exfalso; first | omega | exact absurd h (by decide) | exact h rfl)) | refine get_at gk ?_ | (refine ⟨(k + 1, _), ⟨?_, by (try dsimp only); omega⟩, [(0, 0), (1, 3), (2, 2)], ⟨⟨rfl, rfl⟩, ⟨⟨rfl, rfl⟩, ⟨⟨rfl, rfl⟩, ⟨⟨rfl, rfl⟩, ⟨⟨rfl, rfl⟩, trivial⟩⟩⟩⟩⟩, ⟨⟨rfl, rfl, rfl⟩, ⟨⟨rfl, rfl, rfl⟩, ⟨⟨rfl, rfl, rfl⟩, trivial⟩⟩⟩, rfl, rfl, rfl⟩; (try dsimp only); exact ⟨by omega, by rw [hst, List.map_append]; rfl⟩) | refine ⟨⟨by omega, by omega⟩, ?_⟩ | (refine ⟨⟨by simp only [List.length_cons, List.length_nil]; omega, by simp only [List.length_cons, List.length_nil]; omega⟩, ?_⟩) | fail)
    · rw [take_end hkk, fewK_all]
      repeat' ((conv => whnf); first | (refine ⟨fun h => ?_, fun h => ?_⟩ <;> try (exfalso; first | omega | exact absurd h (by decide) | exact h rfl)) | fail | fail)
      all_goals (refine ⟨[], rfl, trivial, ?_⟩; show leR _ (addT a b); unfold addT; rw [hgood]; exact ⟨rfl, rfl, trivial⟩)
theorem add_h : Holds Try.prog 18 addS := holds_of mix Try.func18 addLow (fun _ => rfl) addV

end Go.Proofs.Ytepacknnggnifaa
