/- Split: the reference's Add. -/
import Derived.Test.YtepacknnggnifaaFN
namespace Go.Proofs.Ytepacknnggnifaa
open Go.RowKit
theorem map_setS (l : List Share) (i : Nat) (z : Share) : (l.map encS).set i [.int .i64 z.o, .int .i64 z.a] = (l.set i z).map encS := by rw [List.map_set]
theorem mid_get {α : Type} (A : List α) (y : α) (B : List α) : (A ++ y :: B)[A.length]? = some y := by rw [List.getElem?_append_right (Nat.le_refl _), Nat.sub_self]; rfl
theorem mid_set {α : Type} (A : List α) (y z : α) (B : List α) : (A ++ y :: B).set A.length z = A ++ z :: B := by rw [List.set_append_right _ _ (Nat.le_refl _), Nat.sub_self]; rfl
theorem last_ex {α : Type} {l : List α} (h : 0 < l.length) : ∃ r y, l = r ++ [y] := ⟨l.dropLast, l.getLast (by intro e; rw [e] at h; simp at h), (List.dropLast_concat_getLast _).symm⟩
theorem row_set {T A B : List Share} {y z : Share} {u : Nat} (hT : T = A ++ y :: B) (hu : A.length = u) : (T.map encS).set u [.int .i64 z.o, .int .i64 z.a] = (A ++ z :: B).map encS := by
  subst hT; subst hu; rw [map_setS, mid_set]
theorem tab_lt (p : List Share) : (tabL p).Pairwise fun x y => x.o < y.o := by
  rw [tabL, List.pairwise_map]; exact (keysL_spec p).1
theorem tab_amt {p : List Share} {y : Share} (h : y ∈ tabL p) : y.a = amt p y.o := by
  obtain ⟨o, _, rfl⟩ := List.mem_map.1 h; rfl
theorem tab_new {p : List Share} {o : Int} (h : ∀ z ∈ tabL p, z.o ≠ o) : amt p o = 0 := amt_out fun e => by
  have h1 := (keysL_spec p).2 o |>.2 e
  exact h ⟨o, amt p o⟩ (List.mem_map.2 ⟨o, h1, rfl⟩) rfl
def few0 (l : List Share) : List Share := l.filter fun x => decide (x.a ≠ 0)
theorem few0_no {l : List Share} {k : Nat} {x : Share} (h : l[k]? = some x) (h0 : x.a = 0) : few0 (l.take (k + 1)) = few0 (l.take k) := by
  rw [take_snoc l k x h, few0, few0, List.filter_append]; simp [h0]
theorem few0_yes {l : List Share} {k : Nat} {x : Share} (h : l[k]? = some x) (h0 : ¬ x.a = 0) : few0 (l.take (k + 1)) = few0 (l.take k) ++ [x] := by
  rw [take_snoc l k x h, few0, few0, List.filter_append]; simp [h0]
theorem few0_len (l : List Share) : (few0 l).length ≤ l.length := List.length_filter_le _ _
theorem tab_len (p : List Share) : (tabL p).length ≤ p.length := by rw [tabL, List.length_map]; exact keysL_len p

/-! skiarea/skiarearef34.Add -/
def raddIr : IFn := ⟨131, [.tmp 4, .tmp 5],
  (.seq (.ops [
    ⟨(some 4), .mov, [.const (.slice none 0 0)], none⟩,
    ⟨(some 5), .mov, [.const (.int .i64 0)], none⟩] false)
  (.seq (.ops [
    ⟨(some 15), .mov, [.tmp 0], none⟩,
    ⟨(some 16), .append 41 2 16, [.const (.slice none 0 0), .tmp 15], none⟩,
    ⟨(some 17), .mov, [.tmp 1], none⟩,
    ⟨(some 18), .append 41 2 16, [.tmp 16, .tmp 17], none⟩,
    ⟨(some 6), .mov, [.tmp 18], none⟩] false)
  (.seq (.ops [
    ⟨(some 7), .nilOwn 41 2, [], none⟩] false)
  (.seq (.seq (.ops [
    ⟨(some 8), .mov, [.const (.int .i64 0)], none⟩] false)
  (.block 0
    (.loop
      (.seq (.seq (.ops [
        ⟨(some 19), .mov, [.tmp 8], none⟩,
        ⟨(some 20), .mov, [.tmp 6], none⟩,
        ⟨(some 21), .len, [.tmp 20], none⟩,
        ⟨(some 22), .cmp .lss, [.tmp 19, .tmp 21], none⟩] false)
      (.cond (.tmp 22)
        .skip
        (.exit 0)))
      (.seq (.block 1
        (.seq (.ops [
          ⟨(some 9), .mov, [.const (.int .i64 0)], none⟩] false)
        (.seq (.block 2
          (.loop
            (.seq (.seq (.ops [
              ⟨(some 25), .mov, [.tmp 9], none⟩,
              ⟨(some 26), .mov, [.tmp 7], none⟩,
              ⟨(some 27), .len, [.tmp 26], none⟩,
              ⟨(some 28), .cmp .lss, [.tmp 25, .tmp 27], none⟩,
              ⟨(some 29), .mov, [.tmp 28], none⟩,
              ⟨(some 30), .mov, [.tmp 7], (some (29, true))⟩,
              ⟨(some 31), .mov, [.tmp 9], (some (29, true))⟩,
              ⟨(some 32), .idx 2, [.tmp 30, .tmp 31], (some (29, true))⟩,
              ⟨(some 33), .faddr 0, [.tmp 32], (some (29, true))⟩,
              ⟨(some 34), .load 1 false, [.tmp 33], (some (29, true))⟩,
              ⟨(some 35), .mov, [.tmp 6], (some (29, true))⟩,
              ⟨(some 36), .mov, [.tmp 8], (some (29, true))⟩,
              ⟨(some 37), .idx 2, [.tmp 35, .tmp 36], (some (29, true))⟩,
              ⟨(some 38), .faddr 0, [.tmp 37], (some (29, true))⟩,
              ⟨(some 39), .load 1 false, [.tmp 38], (some (29, true))⟩,
              ⟨(some 40), .cmp .lss, [.tmp 34, .tmp 39], (some (29, true))⟩,
              ⟨(some 41), .pick, [.tmp 29, .tmp 40, .const (.bool false)], none⟩] true)
            (.cond (.tmp 41)
              .skip
              (.exit 2)))
            (.block 3
              (.ops [
                ⟨(some 42), .mov, [.tmp 9], none⟩,
                ⟨(some 43), .bin .add .i64 false, [.tmp 42, .const (.int .i64 1)], none⟩,
                ⟨(some 9), .mov, [.tmp 43], none⟩] false)))))
        (.seq (.seq (.ops [
          ⟨(some 44), .mov, [.tmp 9], none⟩,
          ⟨(some 45), .mov, [.tmp 7], none⟩,
          ⟨(some 46), .len, [.tmp 45], none⟩,
          ⟨(some 47), .cmp .eql, [.tmp 44, .tmp 46], none⟩,
          ⟨(some 48), .mov, [.tmp 47], none⟩,
          ⟨(some 49), .mov, [.tmp 7], (some (48, false))⟩,
          ⟨(some 50), .mov, [.tmp 9], (some (48, false))⟩,
          ⟨(some 51), .idx 2, [.tmp 49, .tmp 50], (some (48, false))⟩,
          ⟨(some 52), .faddr 0, [.tmp 51], (some (48, false))⟩,
          ⟨(some 53), .load 1 false, [.tmp 52], (some (48, false))⟩,
          ⟨(some 54), .mov, [.tmp 6], (some (48, false))⟩,
          ⟨(some 55), .mov, [.tmp 8], (some (48, false))⟩,
          ⟨(some 56), .idx 2, [.tmp 54, .tmp 55], (some (48, false))⟩,
          ⟨(some 57), .faddr 0, [.tmp 56], (some (48, false))⟩,
          ⟨(some 58), .load 1 false, [.tmp 57], (some (48, false))⟩,
          ⟨(some 59), .cmp .neq, [.tmp 53, .tmp 58], (some (48, false))⟩,
          ⟨(some 60), .pick, [.tmp 48, .const (.bool true), .tmp 59], none⟩] true)
        (.cond (.tmp 60)
          (.seq (.ops [
            ⟨(some 61), .mov, [.tmp 7], none⟩,
            ⟨(some 62), .build [.int .i64 0, .int .i64 0] [], [], none⟩,
            ⟨(some 63), .buildSl 41 2, [.tmp 62], none⟩,
            ⟨(some 64), .append 41 2 16, [.tmp 61, .tmp 63], none⟩,
            ⟨(some 7), .mov, [.tmp 64], none⟩] false)
          (.seq (.seq (.ops [
            ⟨(some 65), .mov, [.tmp 7], none⟩,
            ⟨(some 66), .len, [.tmp 65], none⟩,
            ⟨(some 67), .bin .sub .i64 false, [.tmp 66, .const (.int .i64 1)], none⟩,
            ⟨(some 10), .mov, [.tmp 67], none⟩] false)
          (.block 4
            (.loop
              (.seq (.seq (.ops [
                ⟨(some 68), .mov, [.tmp 10], none⟩,
                ⟨(some 69), .mov, [.tmp 9], none⟩,
                ⟨(some 70), .cmp .gtr, [.tmp 68, .tmp 69], none⟩] false)
              (.cond (.tmp 70)
                .skip
                (.exit 4)))
              (.seq (.block 5
                (.ops [
                  ⟨(some 73), .mov, [.tmp 7], none⟩,
                  ⟨(some 74), .mov, [.tmp 10], none⟩,
                  ⟨(some 75), .mov, [.tmp 7], none⟩,
                  ⟨(some 76), .mov, [.tmp 10], none⟩,
                  ⟨(some 77), .bin .sub .i64 false, [.tmp 76, .const (.int .i64 1)], none⟩,
                  ⟨(some 78), .idx 2, [.tmp 75, .tmp 77], none⟩,
                  ⟨(some 79), .load 2 true, [.tmp 78], none⟩,
                  ⟨(some 80), .idx 2, [.tmp 73, .tmp 74], none⟩,
                  ⟨none, .store 2, [.tmp 80, .tmp 79], none⟩] false))
              (.ops [
                ⟨(some 71), .mov, [.tmp 10], none⟩,
                ⟨(some 72), .bin .sub .i64 false, [.tmp 71, .const (.int .i64 1)], none⟩,
                ⟨(some 10), .mov, [.tmp 72], none⟩] false))))))
          (.ops [
            ⟨(some 81), .mov, [.tmp 7], none⟩,
            ⟨(some 82), .mov, [.tmp 9], none⟩,
            ⟨(some 83), .mov, [.tmp 6], none⟩,
            ⟨(some 84), .mov, [.tmp 8], none⟩,
            ⟨(some 85), .idx 2, [.tmp 83, .tmp 84], none⟩,
            ⟨(some 86), .faddr 0, [.tmp 85], none⟩,
            ⟨(some 87), .load 1 false, [.tmp 86], none⟩,
            ⟨(some 88), .build [.int .i64 0, .int .i64 0] [(0, 1)], [.tmp 87], none⟩,
            ⟨(some 89), .idx 2, [.tmp 81, .tmp 82], none⟩,
            ⟨none, .store 2, [.tmp 89, .tmp 88], none⟩] false)))
          .skip))
        (.seq (.ops [
          ⟨(some 91), .mov, [.tmp 7], none⟩,
          ⟨(some 92), .mov, [.tmp 9], none⟩,
          ⟨(some 93), .idx 2, [.tmp 91, .tmp 92], none⟩,
          ⟨(some 94), .faddr 1, [.tmp 93], none⟩,
          ⟨(some 95), .load 1 false, [.tmp 94], none⟩,
          ⟨(some 96), .mov, [.tmp 6], none⟩,
          ⟨(some 97), .mov, [.tmp 8], none⟩,
          ⟨(some 98), .idx 2, [.tmp 96, .tmp 97], none⟩,
          ⟨(some 99), .faddr 1, [.tmp 98], none⟩,
          ⟨(some 100), .load 1 false, [.tmp 99], none⟩,
          ⟨(some 101), .call 33, [.tmp 95, .tmp 100], none⟩,
          ⟨(some 90), .mov, [.tmp 101], none⟩,
          ⟨(some 102), .extract 0, [.tmp 90], none⟩,
          ⟨(some 103), .extract 1, [.tmp 90], none⟩,
          ⟨(some 11), .mov, [.tmp 102], none⟩,
          ⟨(some 12), .mov, [.tmp 103], none⟩] true)
        (.seq (.seq (.ops [
          ⟨(some 104), .mov, [.tmp 12], none⟩,
          ⟨(some 105), .not, [.tmp 104], none⟩] false)
        (.cond (.tmp 105)
          (.seq (.ops [
            ⟨(some 4), .mov, [.const (.slice none 0 0)], none⟩,
            ⟨(some 5), .mov, [.const (.int .i64 12)], none⟩] false)
          .ret)
          .skip))
        (.ops [
          ⟨(some 106), .mov, [.tmp 7], none⟩,
          ⟨(some 107), .mov, [.tmp 9], none⟩,
          ⟨(some 108), .mov, [.tmp 11], none⟩,
          ⟨(some 109), .idx 2, [.tmp 106, .tmp 107], none⟩,
          ⟨(some 110), .faddr 1, [.tmp 109], none⟩,
          ⟨none, .store 1, [.tmp 110, .tmp 108], none⟩] false)))))))
      (.ops [
        ⟨(some 23), .mov, [.tmp 8], none⟩,
        ⟨(some 24), .bin .add .i64 false, [.tmp 23, .const (.int .i64 1)], none⟩,
        ⟨(some 8), .mov, [.tmp 24], none⟩] false))))))
  (.seq (.ops [
    ⟨(some 13), .nilOwn 41 2, [], none⟩] false)
  (.seq (.seq (.ops [
    ⟨(some 14), .mov, [.const (.int .i64 0)], none⟩] false)
  (.block 6
    (.loop
      (.seq (.seq (.ops [
        ⟨(some 111), .mov, [.tmp 14], none⟩,
        ⟨(some 112), .mov, [.tmp 7], none⟩,
        ⟨(some 113), .len, [.tmp 112], none⟩,
        ⟨(some 114), .cmp .lss, [.tmp 111, .tmp 113], none⟩] false)
      (.cond (.tmp 114)
        .skip
        (.exit 6)))
      (.seq (.block 7
        (.seq (.ops [
          ⟨(some 117), .mov, [.tmp 7], none⟩,
          ⟨(some 118), .mov, [.tmp 14], none⟩,
          ⟨(some 119), .idx 2, [.tmp 117, .tmp 118], none⟩,
          ⟨(some 120), .faddr 1, [.tmp 119], none⟩,
          ⟨(some 121), .load 1 false, [.tmp 120], none⟩,
          ⟨(some 122), .cmp .neq, [.tmp 121, .const (.int .i64 0)], none⟩] false)
        (.cond (.tmp 122)
          (.ops [
            ⟨(some 123), .mov, [.tmp 13], none⟩,
            ⟨(some 124), .mov, [.tmp 7], none⟩,
            ⟨(some 125), .mov, [.tmp 14], none⟩,
            ⟨(some 126), .idx 2, [.tmp 124, .tmp 125], none⟩,
            ⟨(some 127), .load 2 true, [.tmp 126], none⟩,
            ⟨(some 128), .buildSl 41 2, [.tmp 127], none⟩,
            ⟨(some 129), .append 41 2 16, [.tmp 123, .tmp 128], none⟩,
            ⟨(some 13), .mov, [.tmp 129], none⟩] false)
          .skip)))
      (.ops [
        ⟨(some 115), .mov, [.tmp 14], none⟩,
        ⟨(some 116), .bin .add .i64 false, [.tmp 115, .const (.int .i64 1)], none⟩,
        ⟨(some 14), .mov, [.tmp 116], none⟩] false))))))
  (.seq (.ops [
    ⟨(some 130), .mov, [.tmp 13], none⟩,
    ⟨(some 4), .mov, [.tmp 130], none⟩,
    ⟨(some 5), .mov, [.const (.int .i64 0)], none⟩] false)
  .ret)))))))⟩
theorem raddLow : lowF Try.prog { owns := [(7, 41), (13, 41)] } Try.f19 = some raddIr := by kernel_rfl
def raddS : Spec := spec (List Share × List Share) (fun p => [L 2 (p.1.map encS), L 2 (p.2.map encS)]) (fun p => p.1.length ≤ 100000 ∧ p.2.length ≤ 100000) (fun p => addT p.1 p.2)
theorem raddV : fnV Try.prog raddIr raddS := by
  intro ⟨(a : List Share), (b : List Share)⟩ hx
  obtain ⟨la, lb⟩ : a.length ≤ 100000 ∧ b.length ≤ 100000 := hx
  have hla : (a.map encS).length = a.length := List.length_map ..
  have hlb : (b.map encS).length = b.length := List.length_map ..
  have hlab : (a ++ b).length = a.length + b.length := List.length_append
  have hlas : ((a ++ b).map encS).length = a.length + b.length := by rw [List.length_map, hlab]
  show vc _ _ _ _ ⟨argEnv 0 [L 2 (a.map encS), L 2 (b.map encS)], [], 0⟩
  repeat' ((conv => whnf); first | (refine ⟨fun h => ?_, fun h => ?_⟩ <;> try (exfalso; first | omega | exact absurd h (by decide) | exact h rfl)) | refine ⟨⟨by omega, by omega⟩, ?_⟩ | (refine ⟨⟨by simp only [List.length_cons, List.length_nil]; omega, by simp only [List.length_cons, List.length_nil]; omega⟩, ?_⟩) | fail | fail)
  refine ⟨Nat × (List (List CV)) × (List (List CV)), fun xq => ⟨[(6, .osl 0), (7, .osl 1), (8, I xq.1)], [(0, .row 41 2 xq.2.1), (1, .row 41 2 xq.2.2)], 2⟩, fun xq => ∃ ks, (xq.1 ≤ a.length + b.length ∧ Sums ((a ++ b).take xq.1) ks) ∧ xq.2.1 = ((a ++ b).map encS) ∧ xq.2.2 = (tabL ((a ++ b).take xq.1)).map encS ∧ addO ((a ++ b).take xq.1) ((a ++ b).drop xq.1) = addO [] (a ++ b), fun xq => a.length + b.length - xq.1, ⟨(0, _, _), ?_, [(0, 1), (1, 2)], ⟨⟨rfl, rfl⟩, ⟨⟨rfl, rfl⟩, ⟨⟨rfl, rfl⟩, trivial⟩⟩⟩, ⟨⟨rfl, rfl, rfl⟩, ⟨⟨rfl, rfl, rfl⟩, trivial⟩⟩, rfl, rfl, rfl⟩, ?_⟩
  · (try dsimp only); exact ⟨[], ⟨Nat.zero_le _, Sums.nil⟩, by rw [List.map_append], rfl, rfl⟩
  rintro ⟨i, al, es⟩ hk
  obtain ⟨ks, ⟨hi, hs⟩, rfl, rfl, hadd⟩ : ∃ ks, (i ≤ a.length + b.length ∧ Sums ((a ++ b).take i) ks) ∧ al = ((a ++ b).map encS) ∧ es = (tabL ((a ++ b).take i)).map encS ∧ addO ((a ++ b).take i) ((a ++ b).drop i) = addO [] (a ++ b) := hk
  (try dsimp only)
  have htl := tab_len ((a ++ b).take i)
  have htl1 : ((tabL ((a ++ b).take i)).map encS).length = (tabL ((a ++ b).take i)).length := List.length_map ..
  rw [List.length_take] at htl
  by_cases hil : i < a.length + b.length
  · obtain ⟨x, hx⟩ := getElem_some (xs := a ++ b) (k := i) (by omega)
    have gx : ((a ++ b).map encS)[(i : Int).toNat]? = some (encS x) := get_share (by rw [Int.toNat_natCast]; exact hx)
    repeat' ((conv => whnf); first | (refine ⟨fun h => ?_, fun h => ?_⟩ <;> try (exfalso; first | omega | exact absurd h (by decide) | exact h rfl)) | fail | fail)
    refine ⟨Nat, fun xq => ⟨[(6, .osl 0), (7, .osl 1), (8, I i), (9, I xq)], [(0, .row 41 2 ((a ++ b).map encS)), (1, .row 41 2 ((tabL ((a ++ b).take i)).map encS))], 2⟩, fun xq => xq ≤ (tabL ((a ++ b).take i)).length ∧ ∀ z ∈ (tabL ((a ++ b).take i)).take xq, z.o < x.o, fun xq => (tabL ((a ++ b).take i)).length - xq, ⟨0, ?_, [], ⟨⟨rfl, rfl⟩, ⟨⟨rfl, rfl⟩, ⟨⟨rfl, rfl⟩, ⟨⟨rfl, rfl⟩, trivial⟩⟩⟩⟩, ⟨⟨rfl, rfl, rfl⟩, ⟨⟨rfl, rfl, rfl⟩, trivial⟩⟩, rfl, rfl, rfl⟩, ?_⟩
    · (try dsimp only); exact ⟨Nat.zero_le _, by simp⟩
    rintro u hk
    obtain ⟨hu0, hA⟩ : u ≤ (tabL ((a ++ b).take i)).length ∧ ∀ z ∈ (tabL ((a ++ b).take i)).take u, z.o < x.o := hk
    (try dsimp only)
    by_cases hu : u < (tabL ((a ++ b).take i)).length
    · obtain ⟨y, hy⟩ := getElem_some hu
      have gy : ((tabL ((a ++ b).take i)).map encS)[(u : Int).toNat]? = some (encS y) := get_share (by rw [Int.toNat_natCast]; exact hy)
      by_cases hlt : y.o < x.o
      · repeat' ((conv => whnf); first | (refine ⟨fun h => ?_, fun h => ?_⟩ <;> try (exfalso; first | omega | exact absurd h (by decide) | exact h rfl)) | refine get_at gx ?_ | refine get_at gy ?_ | (refine ⟨u + 1, ⟨?_, by (try dsimp only); omega⟩, [], ⟨⟨rfl, rfl⟩, ⟨⟨rfl, rfl⟩, ⟨⟨rfl, rfl⟩, ⟨⟨rfl, rfl⟩, trivial⟩⟩⟩⟩, ⟨⟨rfl, rfl, rfl⟩, ⟨⟨rfl, rfl, rfl⟩, trivial⟩⟩, rfl, rfl, rfl⟩; (try dsimp only); exact ⟨by omega, fun z hz => by rw [take_snoc _ u y hy] at hz; rcases List.mem_append.1 hz with h | h; exact hA z h; rw [List.mem_singleton] at h; rw [h]; exact hlt⟩) | refine ⟨⟨by omega, by omega⟩, ?_⟩ | fail)
      by_cases heq : y.o = x.o
      · have hT : tabL ((a ++ b).take i) = (tabL ((a ++ b).take i)).take u ++ y :: (tabL ((a ++ b).take i)).drop (u + 1) := by rw [← drop_of hy, List.take_append_drop]
        have hAl : ((tabL ((a ++ b).take i)).take u).length = u := by rw [List.length_take]; omega
        have hya := tab_amt (List.mem_of_getElem? hy)
        have htab := tab_same hT hA heq
        rw [← take_snoc _ i x hx] at htab
        obtain ⟨b0, b1⟩ := hs.bnd y.o
        rw [← hya] at b0 b1
        rw [drop_of hx] at hadd
        have hpe : plusF (amt ((a ++ b).take i) x.o) x.a = plusF y.a x.a := by rw [hya, heq]
        cases hp : plusF y.a x.a with
        | none =>
          have hbad := addO_bad hadd (hpe.trans hp)
          repeat' ((conv => whnf); first | (refine ⟨fun h => ?_, fun h => ?_⟩ <;> try (exfalso; first | omega | exact absurd h (by decide) | exact h rfl)) | refine get_at gx ?_ | refine get_at gy ?_ | (refine ⟨_, more_h, (y.a, x.a), ⟨b0, b1⟩, leVs_of_eq rfl, .inl rfl, rfl, ?_⟩; show norm (optT (plusF y.a x.a)) _; rw [hp]) | refine ⟨⟨by omega, by omega⟩, ?_⟩ | fail | fail)
          all_goals (refine ⟨[], rfl, trivial, ?_⟩; show leR _ (addT a b); unfold addT; rw [hbad]; exact ⟨rfl, rfl, trivial⟩)
        | some v =>
          obtain ⟨ks', hs', _⟩ := hs.step (hpe.trans hp)
          have hadd' := addO_step hadd (hpe.trans hp)
          rw [← take_snoc _ i x hx] at hs' hadd'
          have hv : v = y.a + x.a := by
            unfold plusF at hp
            split at hp
            · cases hp
            · cases hp; rfl
          have hset : ((tabL ((a ++ b).take i)).map encS).set (u : Int).toNat [.int .i64 y.o, .int .i64 v] = (tabL ((a ++ b).take (i + 1))).map encS := by
            rw [Int.toNat_natCast, row_set (z := ⟨y.o, v⟩) hT hAl, htab, heq, hv]
          repeat' ((conv => whnf); first | (refine ⟨fun h => ?_, fun h => ?_⟩ <;> try (exfalso; first | omega | exact absurd h (by decide) | exact h rfl)) | refine get_at gx ?_ | refine get_at gy ?_ | (refine ⟨_, more_h, (y.a, x.a), ⟨b0, b1⟩, leVs_of_eq rfl, .inl rfl, rfl, ?_⟩; show norm (optT (plusF y.a x.a)) _; rw [hp]) | (refine ⟨(i + 1, _, _), ⟨?_, by (try dsimp only); omega⟩, [], ⟨⟨rfl, rfl⟩, ⟨⟨rfl, rfl⟩, ⟨⟨rfl, rfl⟩, trivial⟩⟩⟩, ⟨⟨rfl, rfl, rfl⟩, ⟨⟨rfl, rfl, rfl⟩, trivial⟩⟩, rfl, rfl, rfl⟩; (try dsimp only); exact ⟨ks', ⟨by omega, hs'⟩, rfl, hset, hadd'⟩) | refine ⟨⟨by omega, by omega⟩, ?_⟩ | fail)
      · have hB : ∀ z ∈ (tabL ((a ++ b).take i)).drop u, x.o < z.o := by
          intro z hz
          rw [drop_of hy] at hz
          rcases List.mem_cons.1 hz with rfl | hz
          · omega
          · have hp := tab_lt ((a ++ b).take i)
            rw [← List.take_append_drop u (tabL ((a ++ b).take i)), drop_of hy, List.pairwise_append] at hp
            have := (List.pairwise_cons.1 hp.2.1).1 z hz
            omega
        have hT : tabL ((a ++ b).take i) = (tabL ((a ++ b).take i)).take u ++ (tabL ((a ++ b).take i)).drop u := (List.take_append_drop _ _).symm
        have hAl : ((tabL ((a ++ b).take i)).take u).length = u := by rw [List.length_take]; omega
        have hz0 : amt ((a ++ b).take i) x.o = 0 := tab_new fun z hz => by
          rw [hT] at hz
          rcases List.mem_append.1 hz with h | h
          · have := hA z h; omega
          · have := hB z h; omega
        have htab := tab_split hT hA hB
        rw [← take_snoc _ i x hx] at htab
        have hTl := congrArg List.length hT
        rw [List.length_append, hAl] at hTl
        obtain ⟨A, hAe⟩ : ∃ A, A = (tabL ((a ++ b).take i)).take u := ⟨_, rfl⟩
        obtain ⟨B, hBe⟩ : ∃ B, B = (tabL ((a ++ b).take i)).drop u := ⟨_, rfl⟩
        rw [← hAe] at hAl
        rw [← hBe] at hTl
        rw [← hAe, ← hBe] at htab hT
        repeat' ((conv => whnf); first | (refine ⟨fun h => ?_, fun h => ?_⟩ <;> try (exfalso; first | omega | exact absurd h (by decide) | exact h rfl)) | refine get_at gx ?_ | refine get_at gy ?_ | refine ⟨⟨by omega, by omega⟩, ?_⟩ | (refine ⟨⟨by simp only [List.length_cons, List.length_nil]; omega, by simp only [List.length_cons, List.length_nil]; omega⟩, ?_⟩) | (refine ⟨⟨by (simp only [List.length_append, List.length_cons, List.length_nil]; omega), by (simp only [List.length_append, List.length_cons, List.length_nil]; omega)⟩, ?_⟩) | fail | fail)
        refine ⟨Int × (List (List CV)), fun xq => ⟨[(6, .osl 0), (7, .osl 1), (8, I i), (9, I u), (10, I xq.1)], [(0, .row 41 2 ((a ++ b).map encS)), (1, .row 41 2 xq.2)], 2⟩, fun xq => ∃ (B1 B2 : List Share) (Y : Share), (B = B1 ++ B2 ∧ xq.1 = (u : Int) + (B1.length : Int)) ∧ xq.2 = (A ++ (B1 ++ Y :: B2)).map encS, fun xq => (xq.1 - u).toNat, ⟨(_, _), ?_, [(0, 0), (1, 2)], ⟨⟨rfl, rfl⟩, ⟨⟨rfl, rfl⟩, ⟨⟨rfl, rfl⟩, ⟨⟨rfl, rfl⟩, ⟨⟨rfl, rfl⟩, trivial⟩⟩⟩⟩⟩, ⟨⟨rfl, rfl, rfl⟩, ⟨⟨rfl, rfl, rfl⟩, trivial⟩⟩, rfl, rfl, rfl⟩, ?_⟩
        · (try dsimp only); exact ⟨B, [], ⟨0, 0⟩, ⟨(List.append_nil _).symm, by simp; omega⟩, by rw [hT]; simp⟩
        rintro ⟨k, es⟩ hk
        obtain ⟨B1, B2, Y, ⟨hBB, hkk⟩, rfl⟩ : ∃ (B1 B2 : List Share) (Y : Share), (B = B1 ++ B2 ∧ k = (u : Int) + (B1.length : Int)) ∧ es = (A ++ (B1 ++ Y :: B2)).map encS := hk
        (try dsimp only)
        have hesl : ((A ++ (B1 ++ Y :: B2)).map encS).length = u + B1.length + 1 + B2.length := by simp only [List.length_map, List.length_append, List.length_cons]; omega
        have hBl := congrArg List.length hBB
        rw [List.length_append] at hBl
        by_cases hku : (u : Int) < k
        · obtain ⟨B3, y1, rfl⟩ := last_ex (l := B1) (by omega)
          have hl3 : (B3 ++ [y1]).length = B3.length + 1 := by rw [List.length_append]; rfl
          rw [hl3] at hkk hesl
          have q1 : A ++ ((B3 ++ [y1]) ++ Y :: B2) = (A ++ B3) ++ y1 :: (Y :: B2) := by simp
          have q2 : A ++ ((B3 ++ [y1]) ++ Y :: B2) = (A ++ B3 ++ [y1]) ++ Y :: B2 := by simp
          have n1 : (k - 1).toNat = (A ++ B3).length := by rw [List.length_append]; omega
          have n2 : k.toNat = (A ++ B3 ++ [y1]).length := by simp only [List.length_append, List.length_cons, List.length_nil]; omega
          have gz : ((A ++ ((B3 ++ [y1]) ++ Y :: B2)).map encS)[(k - 1).toNat]? = some (encS y1) := get_share (by rw [q1, n1]; exact mid_get _ _ _)
          have gy : ((A ++ ((B3 ++ [y1]) ++ Y :: B2)).map encS)[k.toNat]? = some (encS Y) := get_share (by rw [q2, n2]; exact mid_get _ _ _)
          have hset : ((A ++ ((B3 ++ [y1]) ++ Y :: B2)).map encS).set k.toNat [.int .i64 y1.o, .int .i64 y1.a] = (A ++ (B3 ++ y1 :: (y1 :: B2))).map encS := by rw [map_setS, q2, n2, mid_set]; simp
          repeat' ((conv => whnf); first | (refine ⟨fun h => ?_, fun h => ?_⟩ <;> try (exfalso; first | omega | exact absurd h (by decide) | exact h rfl)) | refine get_at gz ?_ | refine get_at gy ?_ | (refine ⟨(_, _), ⟨?_, by (try dsimp only); omega⟩, [], ⟨⟨rfl, rfl⟩, ⟨⟨rfl, rfl⟩, ⟨⟨rfl, rfl⟩, ⟨⟨rfl, rfl⟩, ⟨⟨rfl, rfl⟩, trivial⟩⟩⟩⟩⟩, ⟨⟨rfl, rfl, rfl⟩, ⟨⟨rfl, rfl, rfl⟩, trivial⟩⟩, rfl, rfl, rfl⟩; (try dsimp only); exact ⟨B3, y1 :: B2, y1, ⟨by rw [hBB]; simp, by omega⟩, hset⟩) | refine ⟨⟨by omega, by omega⟩, ?_⟩ | fail)
        · have hB1 : B1 = [] := List.eq_nil_of_length_eq_zero (by omega)
          subst hB1
          rw [List.nil_append] at hBB
          subst hBB
          rw [drop_of hx] at hadd
          have hpe : plusF (amt ((a ++ b).take i) x.o) x.a = plusF 0 x.a := by rw [hz0]
          have hun : (u : Int).toNat = A.length := by rw [Int.toNat_natCast, hAl]
          have gy : ((A ++ ([] ++ Y :: B)).map encS)[(u : Int).toNat]? = some (encS Y) := get_share (by rw [hun]; exact mid_get _ _ _)
          have gz : (((A ++ ([] ++ Y :: B)).map encS).set (u : Int).toNat [.int .i64 x.o, .int .i64 0])[(u : Int).toNat]? = some [.int .i64 x.o, .int .i64 0] := List.getElem?_set_self (by rw [hesl, Int.toNat_natCast]; omega)
          cases hp : plusF 0 x.a with
          | none =>
            have hbad := addO_bad hadd (hpe.trans hp)
            repeat' ((conv => whnf); first | (refine ⟨fun h => ?_, fun h => ?_⟩ <;> try (exfalso; first | omega | exact absurd h (by decide) | exact h rfl)) | refine get_at gx ?_ | refine get_at gy ?_ | refine get_at gz ?_ | (refine ⟨_, more_h, (0, x.a), (by show -1099511627776 ≤ (0 : Int) ∧ (0 : Int) ≤ 1099511627776; omega), leVs_of_eq rfl, .inl rfl, rfl, ?_⟩; show norm (optT (plusF 0 x.a)) _; rw [hp]) | refine ⟨⟨by omega, by omega⟩, ?_⟩ | refine ⟨⟨by omega, by (rw [List.length_set]; omega)⟩, ?_⟩ | fail | fail)
            all_goals (refine ⟨[], rfl, trivial, ?_⟩; show leR _ (addT a b); unfold addT; rw [hbad]; exact ⟨rfl, rfl, trivial⟩)
          | some v =>
            obtain ⟨ks', hs', _⟩ := hs.step (hpe.trans hp)
            have hadd' := addO_step hadd (hpe.trans hp)
            rw [← take_snoc _ i x hx] at hs' hadd'
            have hv : v = 0 + x.a := by
              unfold plusF at hp
              split at hp
              · cases hp
              · cases hp; rfl
            have hset : (((A ++ ([] ++ Y :: B)).map encS).set (u : Int).toNat [.int .i64 x.o, .int .i64 0]).set (u : Int).toNat [.int .i64 x.o, .int .i64 v] = (tabL ((a ++ b).take (i + 1))).map encS := by
              rw [List.set_set, map_setS _ _ ⟨x.o, v⟩, hun, List.nil_append, mid_set, htab, hv]
            repeat' ((conv => whnf); first | (refine ⟨fun h => ?_, fun h => ?_⟩ <;> try (exfalso; first | omega | exact absurd h (by decide) | exact h rfl)) | refine get_at gx ?_ | refine get_at gy ?_ | refine get_at gz ?_ | (refine ⟨_, more_h, (0, x.a), (by show -1099511627776 ≤ (0 : Int) ∧ (0 : Int) ≤ 1099511627776; omega), leVs_of_eq rfl, .inl rfl, rfl, ?_⟩; show norm (optT (plusF 0 x.a)) _; rw [hp]) | (refine ⟨(i + 1, _, _), ⟨?_, by (try dsimp only); omega⟩, [], ⟨⟨rfl, rfl⟩, ⟨⟨rfl, rfl⟩, ⟨⟨rfl, rfl⟩, trivial⟩⟩⟩, ⟨⟨rfl, rfl, rfl⟩, ⟨⟨rfl, rfl, rfl⟩, trivial⟩⟩, rfl, rfl, rfl⟩; (try dsimp only); exact ⟨ks', ⟨by omega, hs'⟩, rfl, hset, hadd'⟩) | refine ⟨⟨by omega, by omega⟩, ?_⟩ | refine ⟨⟨by omega, by (rw [List.length_set]; omega)⟩, ?_⟩ | fail)
    · have hB : ∀ z ∈ (tabL ((a ++ b).take i)).drop u, x.o < z.o := by
        intro z hz
        rw [List.drop_eq_nil_of_le (by omega)] at hz; simp at hz
      have hT : tabL ((a ++ b).take i) = (tabL ((a ++ b).take i)).take u ++ (tabL ((a ++ b).take i)).drop u := (List.take_append_drop _ _).symm
      have hAl : ((tabL ((a ++ b).take i)).take u).length = u := by rw [List.length_take]; omega
      have hz0 : amt ((a ++ b).take i) x.o = 0 := tab_new fun z hz => by
        rw [hT] at hz
        rcases List.mem_append.1 hz with h | h
        · have := hA z h; omega
        · have := hB z h; omega
      have htab := tab_split hT hA hB
      rw [← take_snoc _ i x hx] at htab
      have hTl := congrArg List.length hT
      rw [List.length_append, hAl] at hTl
      obtain ⟨A, hAe⟩ : ∃ A, A = (tabL ((a ++ b).take i)).take u := ⟨_, rfl⟩
      obtain ⟨B, hBe⟩ : ∃ B, B = (tabL ((a ++ b).take i)).drop u := ⟨_, rfl⟩
      rw [← hAe] at hAl
      rw [← hBe] at hTl
      rw [← hAe, ← hBe] at htab hT
      repeat' ((conv => whnf); first | (refine ⟨fun h => ?_, fun h => ?_⟩ <;> try (exfalso; first | omega | exact absurd h (by decide) | exact h rfl)) | refine get_at gx ?_ | refine ⟨⟨by omega, by omega⟩, ?_⟩ | (refine ⟨⟨by simp only [List.length_cons, List.length_nil]; omega, by simp only [List.length_cons, List.length_nil]; omega⟩, ?_⟩) | (refine ⟨⟨by (simp only [List.length_append, List.length_cons, List.length_nil]; omega), by (simp only [List.length_append, List.length_cons, List.length_nil]; omega)⟩, ?_⟩) | fail | fail)
      refine ⟨Int × (List (List CV)), fun xq => ⟨[(6, .osl 0), (7, .osl 1), (8, I i), (9, I u), (10, I xq.1)], [(0, .row 41 2 ((a ++ b).map encS)), (1, .row 41 2 xq.2)], 2⟩, fun xq => ∃ (B1 B2 : List Share) (Y : Share), (B = B1 ++ B2 ∧ xq.1 = (u : Int) + (B1.length : Int)) ∧ xq.2 = (A ++ (B1 ++ Y :: B2)).map encS, fun xq => (xq.1 - u).toNat, ⟨(_, _), ?_, [(0, 0), (1, 2)], ⟨⟨rfl, rfl⟩, ⟨⟨rfl, rfl⟩, ⟨⟨rfl, rfl⟩, ⟨⟨rfl, rfl⟩, ⟨⟨rfl, rfl⟩, trivial⟩⟩⟩⟩⟩, ⟨⟨rfl, rfl, rfl⟩, ⟨⟨rfl, rfl, rfl⟩, trivial⟩⟩, rfl, rfl, rfl⟩, ?_⟩
      · (try dsimp only); exact ⟨B, [], ⟨0, 0⟩, ⟨(List.append_nil _).symm, by simp; omega⟩, by rw [hT]; simp⟩
      rintro ⟨k, es⟩ hk
      obtain ⟨B1, B2, Y, ⟨hBB, hkk⟩, rfl⟩ : ∃ (B1 B2 : List Share) (Y : Share), (B = B1 ++ B2 ∧ k = (u : Int) + (B1.length : Int)) ∧ es = (A ++ (B1 ++ Y :: B2)).map encS := hk
      (try dsimp only)
      have hesl : ((A ++ (B1 ++ Y :: B2)).map encS).length = u + B1.length + 1 + B2.length := by simp only [List.length_map, List.length_append, List.length_cons]; omega
      have hBl := congrArg List.length hBB
      rw [List.length_append] at hBl
      by_cases hku : (u : Int) < k
      · obtain ⟨B3, y1, rfl⟩ := last_ex (l := B1) (by omega)
        have hl3 : (B3 ++ [y1]).length = B3.length + 1 := by rw [List.length_append]; rfl
        rw [hl3] at hkk hesl
        have q1 : A ++ ((B3 ++ [y1]) ++ Y :: B2) = (A ++ B3) ++ y1 :: (Y :: B2) := by simp
        have q2 : A ++ ((B3 ++ [y1]) ++ Y :: B2) = (A ++ B3 ++ [y1]) ++ Y :: B2 := by simp
        have n1 : (k - 1).toNat = (A ++ B3).length := by rw [List.length_append]; omega
        have n2 : k.toNat = (A ++ B3 ++ [y1]).length := by simp only [List.length_append, List.length_cons, List.length_nil]; omega
        have gz : ((A ++ ((B3 ++ [y1]) ++ Y :: B2)).map encS)[(k - 1).toNat]? = some (encS y1) := get_share (by rw [q1, n1]; exact mid_get _ _ _)
        have gy : ((A ++ ((B3 ++ [y1]) ++ Y :: B2)).map encS)[k.toNat]? = some (encS Y) := get_share (by rw [q2, n2]; exact mid_get _ _ _)
        have hset : ((A ++ ((B3 ++ [y1]) ++ Y :: B2)).map encS).set k.toNat [.int .i64 y1.o, .int .i64 y1.a] = (A ++ (B3 ++ y1 :: (y1 :: B2))).map encS := by rw [map_setS, q2, n2, mid_set]; simp
        repeat' ((conv => whnf); first | (refine ⟨fun h => ?_, fun h => ?_⟩ <;> try (exfalso; first | omega | exact absurd h (by decide) | exact h rfl)) | refine get_at gz ?_ | refine get_at gy ?_ | (refine ⟨(_, _), ⟨?_, by (try dsimp only); omega⟩, [], ⟨⟨rfl, rfl⟩, ⟨⟨rfl, rfl⟩, ⟨⟨rfl, rfl⟩, ⟨⟨rfl, rfl⟩, ⟨⟨rfl, rfl⟩, trivial⟩⟩⟩⟩⟩, ⟨⟨rfl, rfl, rfl⟩, ⟨⟨rfl, rfl, rfl⟩, trivial⟩⟩, rfl, rfl, rfl⟩; (try dsimp only); exact ⟨B3, y1 :: B2, y1, ⟨by rw [hBB]; simp, by omega⟩, hset⟩) | refine ⟨⟨by omega, by omega⟩, ?_⟩ | fail)
      · have hB1 : B1 = [] := List.eq_nil_of_length_eq_zero (by omega)
        subst hB1
        rw [List.nil_append] at hBB
        subst hBB
        rw [drop_of hx] at hadd
        have hpe : plusF (amt ((a ++ b).take i) x.o) x.a = plusF 0 x.a := by rw [hz0]
        have hun : (u : Int).toNat = A.length := by rw [Int.toNat_natCast, hAl]
        have gy : ((A ++ ([] ++ Y :: B)).map encS)[(u : Int).toNat]? = some (encS Y) := get_share (by rw [hun]; exact mid_get _ _ _)
        have gz : (((A ++ ([] ++ Y :: B)).map encS).set (u : Int).toNat [.int .i64 x.o, .int .i64 0])[(u : Int).toNat]? = some [.int .i64 x.o, .int .i64 0] := List.getElem?_set_self (by rw [hesl, Int.toNat_natCast]; omega)
        cases hp : plusF 0 x.a with
        | none =>
          have hbad := addO_bad hadd (hpe.trans hp)
          repeat' ((conv => whnf); first | (refine ⟨fun h => ?_, fun h => ?_⟩ <;> try (exfalso; first | omega | exact absurd h (by decide) | exact h rfl)) | refine get_at gx ?_ | refine get_at gy ?_ | refine get_at gz ?_ | (refine ⟨_, more_h, (0, x.a), (by show -1099511627776 ≤ (0 : Int) ∧ (0 : Int) ≤ 1099511627776; omega), leVs_of_eq rfl, .inl rfl, rfl, ?_⟩; show norm (optT (plusF 0 x.a)) _; rw [hp]) | refine ⟨⟨by omega, by omega⟩, ?_⟩ | refine ⟨⟨by omega, by (rw [List.length_set]; omega)⟩, ?_⟩ | fail | fail)
          all_goals (refine ⟨[], rfl, trivial, ?_⟩; show leR _ (addT a b); unfold addT; rw [hbad]; exact ⟨rfl, rfl, trivial⟩)
        | some v =>
          obtain ⟨ks', hs', _⟩ := hs.step (hpe.trans hp)
          have hadd' := addO_step hadd (hpe.trans hp)
          rw [← take_snoc _ i x hx] at hs' hadd'
          have hv : v = 0 + x.a := by
            unfold plusF at hp
            split at hp
            · cases hp
            · cases hp; rfl
          have hset : (((A ++ ([] ++ Y :: B)).map encS).set (u : Int).toNat [.int .i64 x.o, .int .i64 0]).set (u : Int).toNat [.int .i64 x.o, .int .i64 v] = (tabL ((a ++ b).take (i + 1))).map encS := by
            rw [List.set_set, map_setS _ _ ⟨x.o, v⟩, hun, List.nil_append, mid_set, htab, hv]
          repeat' ((conv => whnf); first | (refine ⟨fun h => ?_, fun h => ?_⟩ <;> try (exfalso; first | omega | exact absurd h (by decide) | exact h rfl)) | refine get_at gx ?_ | refine get_at gy ?_ | refine get_at gz ?_ | (refine ⟨_, more_h, (0, x.a), (by show -1099511627776 ≤ (0 : Int) ∧ (0 : Int) ≤ 1099511627776; omega), leVs_of_eq rfl, .inl rfl, rfl, ?_⟩; show norm (optT (plusF 0 x.a)) _; rw [hp]) | (refine ⟨(i + 1, _, _), ⟨?_, by (try dsimp only); omega⟩, [], ⟨⟨rfl, rfl⟩, ⟨⟨rfl, rfl⟩, ⟨⟨rfl, rfl⟩, trivial⟩⟩⟩, ⟨⟨rfl, rfl, rfl⟩, ⟨⟨rfl, rfl, rfl⟩, trivial⟩⟩, rfl, rfl, rfl⟩; (try dsimp only); exact ⟨ks', ⟨by omega, hs'⟩, rfl, hset, hadd'⟩) | refine ⟨⟨by omega, by omega⟩, ?_⟩ | refine ⟨⟨by omega, by (rw [List.length_set]; omega)⟩, ?_⟩ | fail)
  · have hti : (a ++ b).take i = a ++ b := List.take_of_length_le (by omega)
    have hdi : (a ++ b).drop i = [] := List.drop_eq_nil_of_le (by omega)
    rw [hti, hdi] at hadd
    have hgood : addO [] (a ++ b) = true := by rw [← hadd]; rfl
    rw [hti] at htl1 ⊢
    have htl' := tab_len (a ++ b)
    repeat' ((conv => whnf); first | (refine ⟨fun h => ?_, fun h => ?_⟩ <;> try (exfalso; first | omega | exact absurd h (by decide) | exact h rfl)) | fail | fail)
    refine ⟨Nat × (List (List CV)), fun xq => ⟨[(7, .osl 0), (13, .osl 1), (14, I xq.1)], [(0, .row 41 2 ((tabL (a ++ b)).map encS)), (1, .row 41 2 xq.2)], 2⟩, fun xq => xq.1 ≤ (tabL (a ++ b)).length ∧ xq.2 = (few0 ((tabL (a ++ b)).take xq.1)).map encS, fun xq => (tabL (a ++ b)).length - xq.1, ⟨(0, _), ?_, [(0, 1), (1, 2)], ⟨⟨rfl, rfl⟩, ⟨⟨rfl, rfl⟩, ⟨⟨rfl, rfl⟩, trivial⟩⟩⟩, ⟨⟨rfl, rfl, rfl⟩, ⟨⟨rfl, rfl, rfl⟩, trivial⟩⟩, rfl, rfl, rfl⟩, ?_⟩
    · (try dsimp only); exact ⟨Nat.zero_le _, rfl⟩
    rintro ⟨k, es⟩ hk
    obtain ⟨hk, rfl⟩ : k ≤ (tabL (a ++ b)).length ∧ es = (few0 ((tabL (a ++ b)).take k)).map encS := hk
    (try dsimp only)
    have hfl := few0_len ((tabL (a ++ b)).take k)
    have hfl1 : ((few0 ((tabL (a ++ b)).take k)).map encS).length = (few0 ((tabL (a ++ b)).take k)).length := List.length_map ..
    rw [List.length_take] at hfl
    by_cases hkk : k < (tabL (a ++ b)).length
    · obtain ⟨y, hy⟩ := getElem_some hkk
      have gy : ((tabL (a ++ b)).map encS)[(k : Int).toNat]? = some (encS y) := get_share (by rw [Int.toNat_natCast]; exact hy)
      by_cases h0 : y.a = 0
      · have hst := few0_no hy h0
        repeat' ((conv => whnf); first | (refine ⟨fun h => ?_, fun h => ?_⟩ <;> try (exfalso; first | omega | exact absurd h (by decide) | exact h rfl)) | refine get_at gy ?_ | (refine ⟨(k + 1, _), ⟨?_, by (try dsimp only); omega⟩, [], ⟨⟨rfl, rfl⟩, ⟨⟨rfl, rfl⟩, ⟨⟨rfl, rfl⟩, trivial⟩⟩⟩, ⟨⟨rfl, rfl, rfl⟩, ⟨⟨rfl, rfl, rfl⟩, trivial⟩⟩, rfl, rfl, rfl⟩; (try dsimp only); exact ⟨by omega, by rw [hst]⟩) | refine ⟨⟨by omega, by omega⟩, ?_⟩ | fail)
      · have hst := few0_yes hy h0
        repeat' ((conv => whnf); first | (refine ⟨fun h => ?_, fun h => ?_⟩ <;> try (exfalso; first | omega | exact absurd h (by decide) | exact h rfl)) | refine get_at gy ?_ | (refine ⟨(k + 1, _), ⟨?_, by (try dsimp only); omega⟩, [(0, 0), (1, 2)], ⟨⟨rfl, rfl⟩, ⟨⟨rfl, rfl⟩, ⟨⟨rfl, rfl⟩, trivial⟩⟩⟩, ⟨⟨rfl, rfl, rfl⟩, ⟨⟨rfl, rfl, rfl⟩, trivial⟩⟩, rfl, rfl, rfl⟩; (try dsimp only); exact ⟨by omega, by rw [hst, List.map_append]; rfl⟩) | refine ⟨⟨by omega, by omega⟩, ?_⟩ | (refine ⟨⟨by simp only [List.length_cons, List.length_nil]; omega, by simp only [List.length_cons, List.length_nil]; omega⟩, ?_⟩) | fail)
    · rw [take_end hkk]
      repeat' ((conv => whnf); first | (refine ⟨fun h => ?_, fun h => ?_⟩ <;> try (exfalso; first | omega | exact absurd h (by decide) | exact h rfl)) | fail | fail)
      all_goals (refine ⟨[], rfl, trivial, ?_⟩; show leR _ (addT a b); unfold addT; rw [hgood]; exact ⟨rfl, rfl, trivial⟩)
theorem radd_h : Holds Try.prog 19 raddS := holds_of mix Try.func19 raddLow (fun _ => rfl) raddV

end Go.Proofs.Ytepacknnggnifaa
