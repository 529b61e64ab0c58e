/- Assignments: the reference's. -/
import Derived.Test.YtoeichkblclfaaaJ2
namespace Go.Proofs.Ytoeichkblclfaaa
open Go.RowKit
theorem jshl_facts : ∀ k : Fin 9, IntKind.wrap .i64 (1 * 2 ^ Nat.min ((k.1 : Int).toNat) (IntKind.bits .i64)) = ((2 ^ k.1 : Nat) : Int) := by decide +kernel
theorem jshl {k : Nat} (h : k ≤ 8) : IntKind.wrap .i64 (1 * 2 ^ Nat.min ((k : Int).toNat) (IntKind.bits .i64)) = ((2 ^ k : Nat) : Int) := jshl_facts ⟨k, by omega⟩
theorem ju_facts : ∀ k : Fin 9, IntKind.wrap .u64 (k.1 : Int) = (k.1 : Int) := by decide +kernel
theorem ju {k : Nat} (h : k ≤ 8) : IntKind.wrap .u64 (k : Int) = (k : Int) := ju_facts ⟨k, by omega⟩
theorem jbit_facts : ∀ S : Fin 256, ∀ k : Fin 8, ((S.1 : Int).fdiv (2 ^ Nat.min ((k.1 : Int).toNat) (IntKind.bits .i64))).tmod 2 = if S.1.testBit k.1 then 1 else 0 := by decide +kernel
theorem jbit_yes {S k : Nat} (h : S < 256) (hk : k < 8) (hb : S.testBit k = true) : ((S : Int).fdiv (2 ^ Nat.min ((k : Int).toNat) (IntKind.bits .i64))).tmod 2 = 1 := by rw [jbit_facts ⟨S, h⟩ ⟨k, hk⟩]; exact if_pos hb
theorem jbit_no {S k : Nat} (h : S < 256) (hk : k < 8) (hb : S.testBit k = false) : ((S : Int).fdiv (2 ^ Nat.min ((k : Int).toNat) (IntKind.bits .i64))).tmod 2 = 0 := by rw [jbit_facts ⟨S, h⟩ ⟨k, hk⟩]; exact if_neg (by rw [hb]; decide)
theorem pow8 {c : Nat} (h : c ≤ 8) : 2 ^ c ≤ 256 := Nat.pow_le_pow_right (n := 2) (by omega) h
theorem popF_step {s : Nat} (h : 0 < s) : popF s = s % 2 + popF (s / 2) := by rw [popF, if_neg (by omega)]
theorem popF_le : ∀ (n s : Nat), s ≤ n → popF s ≤ s
  | 0, s, h => by have : s = 0 := by omega
                  subst this; unfold popF; exact Nat.le_refl _
  | n + 1, s, h => by
    by_cases h0 : s = 0
    · subst h0; unfold popF; exact Nat.le_refl _
    · rw [popF_step (by omega)]; have := popF_le n (s / 2) (by omega); omega
theorem tmod2 (s : Nat) : (s : Int).tmod 2 = ((s % 2 : Nat) : Int) := by rw [Int.tmod_eq_emod_of_nonneg (by omega)]; omega
theorem tdiv2 (s : Nat) : (s : Int).tdiv 2 = ((s / 2 : Nat) : Int) := by rw [Int.tdiv_eq_ediv_of_nonneg (by omega)]; omega
def GoodR (c : Nat) (m : List (List Int)) : Prop := GoodM c m ∧ (m = [] → c = 0)
def updF (H : Nat → Int) (i : Nat) (x : Int) : Nat → Int := fun v => if v = i then x else H v
def tabN (N : Nat) (H : Nat → Int) : List (List CV) := (List.range N).map fun v => cI (H v)
theorem tabN_get {N : Nat} {H : Nat → Int} {i : Nat} (h : i < N) : (tabN N H)[i]? = some (cI (H i)) := by
  unfold tabN; rw [List.getElem?_map, List.getElem?_range h]; rfl
theorem tabN_len (N : Nat) (H : Nat → Int) : (tabN N H).length = N := by simp [tabN]
theorem tabN_set {N : Nat} {H : Nat → Int} {i : Nat} {x : Int} : (tabN N H).set i [.int .i64 x] = tabN N (updF H i x) := by
  apply List.ext_getElem?
  intro j
  by_cases hj : j < N
  · rw [tabN_get hj]
    by_cases e : i = j
    · subst e; rw [List.getElem?_set_self (by rw [tabN_len]; exact hj)]; simp [updF]
    · rw [List.getElem?_set_ne e, tabN_get hj]; simp [updF, Ne.symm e]
  · rw [List.getElem?_eq_none (by simp [tabN]; omega), List.getElem?_eq_none (by rw [tabN_len]; omega)]
theorem tabN_set2 {es : List (List CV)} {N : Nat} {F : Nat → Int} {i : Nat} {x y : Int} (he : es = tabN N F) : (es.set i [.int .i64 x]).set i [.int .i64 y] = tabN N (updF (updF F i x) i y) := by rw [he, tabN_set, tabN_set]
theorem tabN_zero (N : Nat) : List.replicate N [CV.int .i64 0] = tabN N (fun _ => 0) := by
  apply List.ext_getElem?
  intro j
  by_cases hj : j < N
  · rw [tabN_get hj, List.getElem?_replicate, if_pos hj]
  · rw [List.getElem?_eq_none (by simp; omega), List.getElem?_eq_none (by rw [tabN_len]; omega)]
theorem tabN_congr {N : Nat} {H K : Nat → Int} (h : ∀ j, j < N → H j = K j) : tabN N H = tabN N K := by
  apply List.ext_getElem?
  intro j
  by_cases hj : j < N
  · rw [tabN_get hj, tabN_get hj, h j hj]
  · rw [List.getElem?_eq_none (by rw [tabN_len]; omega), List.getElem?_eq_none (by rw [tabN_len]; omega)]
theorem idx_tab {N : Nat} {H : Nat → Int} {i : Int} {j : Nat} (hi : i = j) (h : j < N) {K : List CV → Prop} (k : K (cI (H j))) : (0 ≤ i ∧ i < (tabN N H).length) ∧ ∀ r, (tabN N H)[i.toNat]? = some r → K r := by
  subst hi
  refine ⟨⟨by omega, by rw [tabN_len]; omega⟩, fun r hr => ?_⟩
  rw [Int.toNat_natCast, tabN_get h] at hr
  cases hr
  exact k
theorem updF_self (H : Nat → Int) (i : Nat) (x : Int) : updF H i x i = x := if_pos rfl
theorem updF_ne {H : Nat → Int} {i j : Nat} {x : Int} (h : j ≠ i) : updF H i x j = H j := if_neg h
/-- The reference's table. -/
def restF (c : Nat) (m : List (List Int)) (S : Nat) : Int := if m.length < popF S then -1 else minF c (m.drop (popF S)) S
theorem drop_cons {α : Type} {m : List α} {k : Nat} {x : α} (h : m[k]? = some x) : m.drop k = x :: m.drop (k + 1) := by
  obtain ⟨hlt, he⟩ := List.getElem?_eq_some_iff.1 h
  rw [← he]; exact List.drop_eq_getElem_cons hlt
theorem okM_drop {c : Nat} {m : List (List Int)} (h : OkM c m) (k : Nat) : OkM c (m.drop k) := fun r hr => h r (List.mem_of_mem_drop hr)
abbrev vF (c : Nat) (row : List Int) (rest : List (List Int)) (S : Nat) : Nat → Int := fun k => row.getD k 0 + minF c rest (S + 2 ^ k)
theorem rest_at {c : Nat} {m : List (List Int)} {S k : Nat} (hc : c ≤ 8) (hS : S < 2 ^ c) (hk : k < c) (hb : S.testBit k = false) (hp : popF S < m.length) : restF c m (S + 2 ^ k) = minF c (m.drop (popF S + 1)) (S + 2 ^ k) := by
  have := pow8 hc
  unfold restF
  rw [pop_add (by omega) (by omega) hb, if_neg (by omega)]
theorem rest_row {c : Nat} {m : List (List Int)} {S : Nat} {row : List Int} (hr : m[popF S]? = some row) : restF c m S = minTo (vF c row (m.drop (popF S + 1)) S) S c := by
  have := (List.getElem?_eq_some_iff.1 hr).1
  unfold restF
  rw [if_neg (by omega), drop_cons hr, minF]
theorem rest_end {c : Nat} {m : List (List Int)} {S : Nat} (h : ¬ popF S < m.length) : restF c m S = if popF S = m.length then 0 else -1 := by
  unfold restF
  by_cases e : popF S = m.length
  · rw [if_neg (by omega), if_pos e, List.drop_eq_nil_of_le (by omega), minF]
  · rw [if_pos (by omega), if_neg e]
/-- What the values are between. -/
theorem vF_bound {c : Nat} {m : List (List Int)} {S k : Nat} {row : List Int} (hc : c ≤ 8) (hm : OkM c m) (hl : m.length ≤ c) (hr : m[popF S]? = some row) (hS : S < 2 ^ c) (hk : k < c) (hb : S.testBit k = false) : 0 ≤ minF c (m.drop (popF S + 1)) (S + 2 ^ k) ∧ minF c (m.drop (popF S + 1)) (S + 2 ^ k) ≤ 8000000 := by
  have := pow8 hc
  have hlt := (List.getElem?_eq_some_iff.1 hr).1
  have hs := minF_spec hc (okM_drop hm (popF S + 1)) (mask_lt hc hS hk hb) (by rw [pop_add (by omega) (by omega) hb, List.length_drop]; omega)
  rw [List.length_drop] at hs
  omega

/-! skiarea/skiarearef08.taken -/
def takenIr : IFn := ⟨13, [.tmp 2],
  (.seq (.ops [
    ⟨(some 2), .mov, [.const (.int .i64 0)], none⟩] false)
  (.seq (.ops [
    ⟨(some 3), .mov, [.const (.int .i64 0)], none⟩] false)
  (.seq (.block 0
    (.loop
      (.seq (.seq (.ops [
        ⟨(some 4), .mov, [.tmp 0], none⟩,
        ⟨(some 5), .cmp .gtr, [.tmp 4, .const (.int .i64 0)], none⟩] false)
      (.cond (.tmp 5)
        .skip
        (.exit 0)))
      (.seq (.block 1
        (.ops [
          ⟨(some 8), .mov, [.tmp 3], none⟩,
          ⟨(some 9), .mov, [.tmp 0], none⟩,
          ⟨(some 10), .bin .rem .i64 false, [.tmp 9, .const (.int .i64 2)], none⟩,
          ⟨(some 11), .bin .add .i64 false, [.tmp 8, .tmp 10], none⟩,
          ⟨(some 3), .mov, [.tmp 11], none⟩] false))
      (.ops [
        ⟨(some 6), .mov, [.tmp 0], none⟩,
        ⟨(some 7), .bin .quo .i64 false, [.tmp 6, .const (.int .i64 2)], none⟩,
        ⟨(some 0), .mov, [.tmp 7], none⟩] false)))))
  (.seq (.ops [
    ⟨(some 12), .mov, [.tmp 3], none⟩,
    ⟨(some 2), .mov, [.tmp 12], none⟩] false)
  .ret))))⟩
theorem takenLow : lowF Try.prog {} Try.f101 = some takenIr := by kernel_rfl
def takenS : Spec := spec Nat (fun s => [I s]) (fun s => s ≤ 1000000) (fun s => I (popF s))
theorem takenV : fnV Try.prog takenIr takenS := by
  intro (S : Nat) hS
  replace hS : S ≤ 1000000 := hS
  show vc _ _ _ _ ⟨argEnv 0 [I S], [], 0⟩
  conv => whnf
  refine ⟨Nat × Nat, fun xq => ⟨[(0, I xq.1), (3, I xq.2)], [], 0⟩, fun xq => xq.1 ≤ S ∧ xq.2 + popF xq.1 = popF S, fun xq => xq.1, ⟨(S, 0), ?_, [], ⟨⟨rfl, rfl⟩, ⟨⟨rfl, rfl⟩, trivial⟩⟩, trivial, rfl, rfl, rfl⟩, ?_⟩
  · (try dsimp only); exact ⟨Nat.le_refl _, Nat.zero_add _⟩
  rintro ⟨s, n⟩ hk
  obtain ⟨hs, hn⟩ : s ≤ S ∧ n + popF s = popF S := hk
  (try dsimp only)
  have hle := popF_le S S (Nat.le_refl _)
  have ea := tmod2 s
  have eb := tdiv2 s
  by_cases h0 : 0 < s
  · have hst := popF_step h0
    repeat' ((conv => whnf); first | (refine ⟨fun h => ?_, fun h => ?_⟩ <;> try (exfalso; first | omega | exact absurd h (by decide) | exact h rfl | exact absurd (show true = false from h) (by decide) | exact absurd (show false = true from h) (by decide))) | (refine ⟨by decide, ?_⟩; rw [ea]) | (refine ⟨⟨by decide, by omega, by omega⟩, ?_⟩; rw [eb]) | (refine ⟨(s / 2, n + s % 2), ⟨?_, by (try dsimp only); omega⟩, [], ⟨⟨rfl, rfl⟩, ⟨⟨rfl, rfl⟩, trivial⟩⟩, trivial, rfl, rfl, rfl⟩; (try dsimp only); exact ⟨by omega, by omega⟩) | refine ⟨⟨by omega, by omega⟩, ?_⟩ | fail)
  · have hs0 : s = 0 := by omega
    subst hs0
    have hp0 : popF 0 = 0 := by unfold popF; rfl
    repeat' ((conv => whnf); first | (refine ⟨fun h => ?_, fun h => ?_⟩ <;> try (exfalso; first | omega | exact absurd h (by decide) | exact h rfl | exact absurd (show true = false from h) (by decide) | exact absurd (show false = true from h) (by decide))) | fail | fail)
    refine ⟨[], rfl, trivial, congrArg (CV.int .i64) ?_⟩
    omega
theorem taken_h : Holds Try.prog 101 takenS := holds_of mix Try.func101 takenLow (fun _ => rfl) takenV

/-! skiarea/skiarearef08.columns -/
def colsrIr : IFn := ⟨10, [.tmp 2],
  (.seq (.ops [
    ⟨(some 2), .mov, [.const (.int .i64 0)], none⟩] false)
  (.seq (.seq (.ops [
    ⟨(some 3), .mov, [.tmp 0], none⟩,
    ⟨(some 4), .len, [.tmp 3], none⟩,
    ⟨(some 5), .cmp .eql, [.tmp 4, .const (.int .i64 0)], none⟩] false)
  (.cond (.tmp 5)
    (.seq (.ops [
      ⟨(some 2), .mov, [.const (.int .i64 0)], none⟩] false)
    .ret)
    .skip))
  (.seq (.ops [
    ⟨(some 6), .mov, [.tmp 0], none⟩,
    ⟨(some 7), .idx 1, [.tmp 6, .const (.int .i64 0)], none⟩,
    ⟨(some 8), .load 1 false, [.tmp 7], none⟩,
    ⟨(some 9), .len, [.tmp 8], none⟩,
    ⟨(some 2), .mov, [.tmp 9], none⟩] false)
  .ret)))⟩
theorem colsrLow : lowF Try.prog {} Try.f83 = some colsrIr := by kernel_rfl
def colsrS : Spec := spec (Nat × List (List Int)) (fun p => [L 1 (p.2.map encR)]) (fun p => GoodR p.1 p.2) (fun p => I p.1)
theorem colsrV : fnV Try.prog colsrIr colsrS := by
  intro ⟨(c : Nat), (m : List (List Int))⟩ hg
  obtain ⟨⟨⟨h1, h2⟩, hm⟩, h0⟩ : GoodR c m := hg
  have hl : (m.map encR).length = m.length := List.length_map ..
  show vc _ _ _ _ ⟨argEnv 0 [L 1 (m.map encR)], [], 0⟩
  cases m with
  | nil =>
    have hc := h0 rfl
    subst hc
    repeat' ((conv => whnf); first | (refine ⟨fun h => ?_, fun h => ?_⟩ <;> try (exfalso; first | omega | exact absurd h (by decide) | exact h rfl | exact absurd (show true = false from h) (by decide) | exact absurd (show false = true from h) (by decide))) | fail | fail)
    exact ⟨[], rfl, trivial, rfl⟩
  | cons x rr =>
    have hxl : (x.map e1).length = c := (len_e1 x).trans (hm x (by simp)).1
    have hlc : (x :: rr).length = rr.length + 1 := rfl
    repeat' ((conv => whnf); first | (refine ⟨fun h => ?_, fun h => ?_⟩ <;> try (exfalso; first | omega | exact absurd h (by decide) | exact h rfl | exact absurd (show true = false from h) (by decide) | exact absurd (show false = true from h) (by decide))) | (refine ⟨by omega, fun r hrr => ?_⟩; first | ((have hre : r = encR x := by (first | exact get_rowi (j := 0) hrr (by omega) rfl | fail)); subst hre)) | fail | fail)
    refine ⟨[], rfl, trivial, congrArg (CV.int .i64) ?_⟩
    exact congrArg Nat.cast hxl
theorem colsr_h : Holds Try.prog 83 colsrS := holds_of mix Try.func83 colsrLow (fun _ => rfl) colsrV

/-! skiarea/skiarearef08.rest -/
def restIr : IFn := ⟨83, [.tmp 2],
  (.seq (.ops [
    ⟨(some 2), .nilOwn 3 1, [], none⟩] false)
  (.seq (.ops [
    ⟨(some 9), .mov, [.tmp 0], none⟩,
    ⟨(some 10), .call 83, [.tmp 9], none⟩,
    ⟨(some 11), .conv .u64, [.tmp 10], none⟩,
    ⟨(some 12), .bin .shl .i64 false, [.const (.int .i64 1), .tmp 11], none⟩,
    ⟨(some 3), .mov, [.tmp 12], none⟩] false)
  (.seq (.ops [
    ⟨(some 13), .mov, [.tmp 3], none⟩,
    ⟨(some 14), .mksl 3 1 8 [.int .i64 0], [.tmp 13, .tmp 13], none⟩,
    ⟨(some 4), .mov, [.tmp 14], none⟩] false)
  (.seq (.seq (.ops [
    ⟨(some 15), .mov, [.tmp 3], none⟩,
    ⟨(some 16), .bin .sub .i64 false, [.tmp 15, .const (.int .i64 1)], none⟩,
    ⟨(some 5), .mov, [.tmp 16], none⟩] false)
  (.block 0
    (.loop
      (.seq (.seq (.ops [
        ⟨(some 17), .mov, [.tmp 5], none⟩,
        ⟨(some 18), .cmp .geq, [.tmp 17, .const (.int .i64 0)], none⟩] false)
      (.cond (.tmp 18)
        .skip
        (.exit 0)))
      (.seq (.block 1
        (.seq (.ops [
          ⟨(some 21), .mov, [.tmp 5], none⟩,
          ⟨(some 22), .call 101, [.tmp 21], none⟩,
          ⟨(some 6), .mov, [.tmp 22], none⟩] false)
        (.seq (.ops [
          ⟨(some 23), .mov, [.tmp 4], none⟩,
          ⟨(some 24), .mov, [.tmp 5], none⟩,
          ⟨(some 25), .idx 1, [.tmp 23, .tmp 24], none⟩,
          ⟨none, .store 1, [.tmp 25, .const (.int .i64 (-1))], none⟩] false)
        (.seq (.seq (.ops [
          ⟨(some 26), .mov, [.tmp 6], none⟩,
          ⟨(some 27), .mov, [.tmp 0], none⟩,
          ⟨(some 28), .len, [.tmp 27], none⟩,
          ⟨(some 29), .cmp .eql, [.tmp 26, .tmp 28], none⟩] false)
        (.cond (.tmp 29)
          (.ops [
            ⟨(some 30), .mov, [.tmp 4], none⟩,
            ⟨(some 31), .mov, [.tmp 5], none⟩,
            ⟨(some 32), .idx 1, [.tmp 30, .tmp 31], none⟩,
            ⟨none, .store 1, [.tmp 32, .const (.int .i64 0)], none⟩] false)
          .skip))
        (.seq (.seq (.ops [
          ⟨(some 33), .mov, [.tmp 6], none⟩,
          ⟨(some 34), .mov, [.tmp 0], none⟩,
          ⟨(some 35), .len, [.tmp 34], none⟩,
          ⟨(some 36), .cmp .geq, [.tmp 33, .tmp 35], none⟩] false)
        (.cond (.tmp 36)
          (.exit 1)
          .skip))
        (.seq (.ops [
          ⟨(some 7), .mov, [.const (.int .i64 0)], none⟩] false)
        (.block 2
          (.loop
            (.seq (.seq (.ops [
              ⟨(some 37), .mov, [.tmp 7], none⟩,
              ⟨(some 38), .mov, [.tmp 0], none⟩,
              ⟨(some 39), .call 83, [.tmp 38], none⟩,
              ⟨(some 40), .cmp .lss, [.tmp 37, .tmp 39], none⟩] false)
            (.cond (.tmp 40)
              .skip
              (.exit 2)))
            (.seq (.block 3
              (.seq (.ops [
                ⟨(some 43), .mov, [.tmp 5], none⟩,
                ⟨(some 44), .mov, [.tmp 7], none⟩,
                ⟨(some 45), .conv .u64, [.tmp 44], none⟩,
                ⟨(some 46), .bin .shr .i64 false, [.tmp 43, .tmp 45], none⟩,
                ⟨(some 47), .bin .rem .i64 false, [.tmp 46, .const (.int .i64 2)], none⟩,
                ⟨(some 48), .cmp .eql, [.tmp 47, .const (.int .i64 0)], none⟩] false)
              (.cond (.tmp 48)
                (.seq (.ops [
                  ⟨(some 49), .mov, [.tmp 0], none⟩,
                  ⟨(some 50), .mov, [.tmp 6], none⟩,
                  ⟨(some 51), .idx 1, [.tmp 49, .tmp 50], none⟩,
                  ⟨(some 52), .load 1 false, [.tmp 51], none⟩,
                  ⟨(some 53), .mov, [.tmp 7], none⟩,
                  ⟨(some 54), .idx 1, [.tmp 52, .tmp 53], none⟩,
                  ⟨(some 55), .load 1 false, [.tmp 54], none⟩,
                  ⟨(some 56), .mov, [.tmp 4], none⟩,
                  ⟨(some 57), .mov, [.tmp 5], none⟩,
                  ⟨(some 58), .mov, [.tmp 7], none⟩,
                  ⟨(some 59), .conv .u64, [.tmp 58], none⟩,
                  ⟨(some 60), .bin .shl .i64 false, [.const (.int .i64 1), .tmp 59], none⟩,
                  ⟨(some 61), .bin .add .i64 false, [.tmp 57, .tmp 60], none⟩,
                  ⟨(some 62), .idx 1, [.tmp 56, .tmp 61], none⟩,
                  ⟨(some 63), .load 1 false, [.tmp 62], none⟩,
                  ⟨(some 64), .bin .add .i64 false, [.tmp 55, .tmp 63], none⟩,
                  ⟨(some 8), .mov, [.tmp 64], none⟩] true)
                (.seq (.ops [
                  ⟨(some 65), .mov, [.tmp 4], none⟩,
                  ⟨(some 66), .mov, [.tmp 5], none⟩,
                  ⟨(some 67), .idx 1, [.tmp 65, .tmp 66], none⟩,
                  ⟨(some 68), .load 1 false, [.tmp 67], none⟩,
                  ⟨(some 69), .cmp .lss, [.tmp 68, .const (.int .i64 0)], none⟩,
                  ⟨(some 70), .mov, [.tmp 69], none⟩,
                  ⟨(some 71), .mov, [.tmp 8], (some (70, false))⟩,
                  ⟨(some 72), .mov, [.tmp 4], (some (70, false))⟩,
                  ⟨(some 73), .mov, [.tmp 5], (some (70, false))⟩,
                  ⟨(some 74), .idx 1, [.tmp 72, .tmp 73], (some (70, false))⟩,
                  ⟨(some 75), .load 1 false, [.tmp 74], (some (70, false))⟩,
                  ⟨(some 76), .cmp .lss, [.tmp 71, .tmp 75], (some (70, false))⟩,
                  ⟨(some 77), .pick, [.tmp 70, .const (.bool true), .tmp 76], none⟩] false)
                (.cond (.tmp 77)
                  (.ops [
                    ⟨(some 78), .mov, [.tmp 4], none⟩,
                    ⟨(some 79), .mov, [.tmp 5], none⟩,
                    ⟨(some 80), .mov, [.tmp 8], none⟩,
                    ⟨(some 81), .idx 1, [.tmp 78, .tmp 79], none⟩,
                    ⟨none, .store 1, [.tmp 81, .tmp 80], none⟩] false)
                  .skip)))
                .skip)))
            (.ops [
              ⟨(some 41), .mov, [.tmp 7], none⟩,
              ⟨(some 42), .bin .add .i64 false, [.tmp 41, .const (.int .i64 1)], none⟩,
              ⟨(some 7), .mov, [.tmp 42], none⟩] false)))))))))))
      (.ops [
        ⟨(some 19), .mov, [.tmp 5], none⟩,
        ⟨(some 20), .bin .sub .i64 false, [.tmp 19, .const (.int .i64 1)], none⟩,
        ⟨(some 5), .mov, [.tmp 20], none⟩] false))))))
  (.seq (.ops [
    ⟨(some 82), .mov, [.tmp 4], none⟩,
    ⟨(some 2), .mov, [.tmp 82], none⟩] false)
  .ret)))))⟩
theorem restLow : lowF Try.prog { owns := [(2, 3)] } Try.f82 = some restIr := by kernel_rfl
def restS : Spec := spec (Nat × List (List Int)) (fun p => [L 1 (p.2.map encR)]) (fun p => GoodR p.1 p.2) (fun p => L 1 (tabN (2 ^ p.1) (restF p.1 p.2)))
set_option maxHeartbeats 1000000 in
theorem restV : fnV Try.prog restIr restS := by
  intro ⟨(c : Nat), (m : List (List Int))⟩ hgr
  replace hgr : GoodR c m := hgr
  obtain ⟨⟨⟨h1, h2⟩, hm⟩, h0⟩ := id hgr
  have hl : (m.map encR).length = m.length := List.length_map ..
  have h256 := pow8 h2
  have hN := jshl h2
  obtain ⟨N, hNN⟩ : ∃ N, 2 ^ c = N := ⟨_, rfl⟩
  have hNp : 0 < N := by rw [← hNN]; exact Nat.two_pow_pos _
  show vc _ _ _ _ ⟨argEnv 0 [L 1 (m.map encR)], [], 0⟩
  repeat' ((conv => whnf); first | (refine ⟨fun h => ?_, fun h => ?_⟩ <;> try (exfalso; first | omega | exact absurd h (by decide) | exact h rfl | exact absurd (show true = false from h) (by decide) | exact absurd (show false = true from h) (by decide))) | (refine ⟨_, colsr_h, (c, m), hgr, leVs_of_eq rfl, .inl rfl, rfl, ?_⟩; show norm (I c) _) | refine ⟨⟨by omega, by omega⟩, ?_⟩ | (refine ⟨ju (by omega), ?_⟩) | fail | fail)
  conv => whnf
  refine ⟨by omega, ?_⟩
  conv => whnf
  rw [hN, hNN]
  repeat' ((conv => whnf); first | (refine ⟨fun h => ?_, fun h => ?_⟩ <;> try (exfalso; first | omega | exact absurd h (by decide) | exact h rfl | exact absurd (show true = false from h) (by decide) | exact absurd (show false = true from h) (by decide))) | (refine ⟨⟨by omega, by omega, by omega, by omega⟩, ?_⟩; rw [Int.toNat_natCast]) | refine ⟨⟨by omega, by omega⟩, ?_⟩ | fail | fail)
  refine ⟨Nat × (List (List CV)), fun xq => ⟨[(0, L 1 (m.map encR)), (4, .osl 0), (5, I ((xq.1 : Int) - 1))], [(0, .row 3 1 xq.2)], 1⟩, fun xq => xq.1 ≤ N ∧ ∃ F : Nat → Int, xq.2 = tabN N F ∧ ∀ j, xq.1 ≤ j → j < N → F j = restF c m j, fun xq => xq.1, ⟨(N, _), ?_, [(0, 1)], ⟨⟨rfl, rfl⟩, ⟨⟨rfl, rfl⟩, ⟨⟨rfl, rfl⟩, trivial⟩⟩⟩, ⟨⟨rfl, rfl, rfl⟩, trivial⟩, rfl, rfl, rfl⟩, ?_⟩
  · (try dsimp only); exact ⟨Nat.le_refl _, _, tabN_zero N, fun j _ _ => by omega⟩
  rintro ⟨n, es⟩ hk
  obtain ⟨hn, F, he, hF⟩ : n ≤ N ∧ ∃ F : Nat → Int, es = tabN N F ∧ ∀ j, n ≤ j → j < N → F j = restF c m j := hk
  (try dsimp only)
  have hel : es.length = N := by rw [he]; exact tabN_len N F
  cases n with
  | succ S =>
    have hS8 : S < 256 := by omega
    have hSc : S < 2 ^ c := by omega
    have hpS : popF S ≤ S := popF_le S S (Nat.le_refl _)
    have hS1 : (((S + 1 : Nat) : Int) - 1) = (S : Int) := by omega
    rw [hS1]
    have hfin : ∀ G : Nat → Int, G S = restF c m S → (∀ j, j ≠ S → G j = F j) → ∀ j, S ≤ j → j < N → G j = restF c m j := by
      intro G g1 g2 j hj hjN
      by_cases e : j = S
      · rw [e]; exact g1
      · rw [g2 j e]; exact hF j (by omega) hjN
    by_cases hpl : popF S < m.length
    · obtain ⟨row, hrow⟩ := getElem_some hpl
      obtain ⟨hrl, hrx⟩ := hm row (List.mem_of_getElem? hrow)
      have k0 : es[(S : Int).toNat]? = some (cI (F S)) := by rw [he]; exact tabN_get (by omega)
      repeat' ((conv => whnf); first | (refine ⟨fun h => ?_, fun h => ?_⟩ <;> try (exfalso; first | omega | exact absurd h (by decide) | exact h rfl | exact absurd (show true = false from h) (by decide) | exact absurd (show false = true from h) (by decide))) | (refine ⟨_, taken_h, S, (by show S ≤ 1000000; omega), leVs_of_eq rfl, .inl rfl, rfl, ?_⟩; show norm (I (popF S)) _) | refine ⟨⟨by omega, by omega⟩, ?_⟩ | refine get_at k0 ?_ | fail | fail)
      refine ⟨Nat × (List (List CV)), fun xq => ⟨[(0, L 1 (m.map encR)), (4, .osl 0), (5, I S), (6, I (popF S)), (7, I xq.1)], [(0, .row 3 1 xq.2)], 1⟩, fun xq => xq.1 ≤ c ∧ ∃ G : Nat → Int, xq.2 = tabN N G ∧ (G S = minTo (vF c row (m.drop (popF S + 1)) S) S xq.1 ∧ ∀ j, j ≠ S → G j = F j), fun xq => c - xq.1, ⟨(0, _), ?_, [], ⟨⟨rfl, rfl⟩, ⟨⟨rfl, rfl⟩, ⟨⟨rfl, rfl⟩, ⟨⟨rfl, rfl⟩, ⟨⟨rfl, rfl⟩, trivial⟩⟩⟩⟩⟩, ⟨⟨rfl, rfl, rfl⟩, trivial⟩, rfl, rfl, rfl⟩, ?_⟩
      · (try dsimp only); exact ⟨Nat.zero_le _, _, by rw [he]; exact tabN_set, updF_self F S (-1), fun j hj => updF_ne hj⟩
      rintro ⟨k, es⟩ hk
      obtain ⟨hk, G, he, hGS, hGn⟩ : k ≤ c ∧ ∃ G : Nat → Int, es = tabN N G ∧ (G S = minTo (vF c row (m.drop (popF S + 1)) S) S k ∧ ∀ j, j ≠ S → G j = F j) := hk
      (try dsimp only)
      have hel : es.length = N := by rw [he]; exact tabN_len N G
      by_cases hkl : k < c
      · cases hb : S.testBit k with
        | true =>
          have hbit := jbit_yes hS8 (by omega) hb
          repeat' ((conv => whnf); first | (refine ⟨(k + 1, _), ⟨?_, by (try dsimp only); omega⟩, [], ⟨⟨rfl, rfl⟩, ⟨⟨rfl, rfl⟩, ⟨⟨rfl, rfl⟩, ⟨⟨rfl, rfl⟩, ⟨⟨rfl, rfl⟩, trivial⟩⟩⟩⟩⟩, ⟨⟨rfl, rfl, rfl⟩, trivial⟩, rfl, rfl, rfl⟩; (try dsimp only); exact ⟨by omega, G, he, hGS.trans (by rw [minTo, if_pos hb]), hGn⟩) | (refine ⟨fun h => ?_, fun h => ?_⟩ <;> try (exfalso; first | omega | exact absurd h (by decide) | exact h rfl | exact absurd (show true = false from h) (by decide) | exact absurd (show false = true from h) (by decide))) | (refine ⟨_, colsr_h, (c, m), hgr, leVs_of_eq rfl, .inl rfl, rfl, ?_⟩; show norm (I c) _) | (refine ⟨by decide, ?_⟩) | (refine ⟨ju (by omega), ?_⟩) | (refine ⟨by omega, ?_⟩) | refine ⟨⟨by omega, by omega⟩, ?_⟩ | fail)
        | false =>
          have hbit := jbit_no hS8 (by omega) hb
          have hlt := mask_lt h2 hSc hkl hb
          obtain ⟨v1, v2⟩ := vF_bound h2 hm h1 hrow hSc hkl hb
          obtain ⟨y, hy⟩ := getElem_some (show k < row.length by omega)
          obtain ⟨y0, y1⟩ := hrx y (List.mem_of_getElem? hy)
          have hgd : row.getD k 0 = y := by rw [List.getD_eq_getElem?_getD, hy]; rfl
          have hG2 : G (S + 2 ^ k) = minF c (m.drop (popF S + 1)) (S + 2 ^ k) := by
            rw [hGn _ (by have := Nat.two_pow_pos k; omega), hF _ (by have := Nat.two_pow_pos k; omega) (by omega)]
            exact rest_at h2 hSc hkl hb hpl
          have hst : minTo (vF c row (m.drop (popF S + 1)) S) S (k + 1) = stepM (G S) (y + G (S + 2 ^ k)) := by rw [minTo, if_neg (by rw [hb]; decide), ← hGS, hG2, ← hgd]
          rw [← hG2] at v1 v2
          have hshl := jshl (k := k) (by omega)
          generalize hP : 2 ^ k = P at *
          have k1 : es[(S : Int).toNat]? = some (cI (G S)) := by rw [he]; exact tabN_get (by omega)
          have k2 : es[((S : Int) + (P : Nat)).toNat]? = some (cI (G (S + P))) := by rw [show ((S : Int) + (P : Nat)).toNat = S + P by omega, he]; exact tabN_get (by omega)
          have hlr := len_e1 row
          by_cases hup : G S < 0 ∨ y + G (S + P) < G S
          · have hst2 := hst.trans (if_pos hup)
            repeat' ((conv => whnf); first | (refine ⟨(k + 1, _), ⟨?_, by (try dsimp only); omega⟩, [], ⟨⟨rfl, rfl⟩, ⟨⟨rfl, rfl⟩, ⟨⟨rfl, rfl⟩, ⟨⟨rfl, rfl⟩, ⟨⟨rfl, rfl⟩, trivial⟩⟩⟩⟩⟩, ⟨⟨rfl, rfl, rfl⟩, trivial⟩, rfl, rfl, rfl⟩; (try dsimp only); exact ⟨by omega, _, by rw [he]; exact tabN_set, (updF_self G S _).trans hst2.symm, fun j hj => (updF_ne hj).trans (hGn j hj)⟩) | (refine ⟨fun h => ?_, fun h => ?_⟩ <;> try (exfalso; first | omega | exact absurd h (by decide) | exact h rfl | exact absurd (show true = false from h) (by decide) | exact absurd (show false = true from h) (by decide))) | (refine ⟨_, colsr_h, (c, m), hgr, leVs_of_eq rfl, .inl rfl, rfl, ?_⟩; show norm (I c) _) | (refine ⟨by decide, ?_⟩) | (refine ⟨ju (by omega), ?_⟩) | (refine ⟨by omega, fun r hrr => ?_⟩; first | ((have hre : r = encR row := by (first | exact get_row hrr hrow | fail)); subst hre) | ((have hre : r = e1 y := by (first | exact get_row hrr hy | fail)); subst hre)) | refine get_at k1 ?_ | (rw [hshl]; refine get_at k2 ?_) | refine ⟨⟨by omega, by omega⟩, ?_⟩ | (refine ⟨by omega, ?_⟩) | fail | fail)
          · have hst2 := hst.trans (if_neg hup)
            repeat' ((conv => whnf); first | (refine ⟨(k + 1, _), ⟨?_, by (try dsimp only); omega⟩, [], ⟨⟨rfl, rfl⟩, ⟨⟨rfl, rfl⟩, ⟨⟨rfl, rfl⟩, ⟨⟨rfl, rfl⟩, ⟨⟨rfl, rfl⟩, trivial⟩⟩⟩⟩⟩, ⟨⟨rfl, rfl, rfl⟩, trivial⟩, rfl, rfl, rfl⟩; (try dsimp only); exact ⟨by omega, G, he, hst2.symm, hGn⟩) | (refine ⟨fun h => ?_, fun h => ?_⟩ <;> try (exfalso; first | omega | exact absurd h (by decide) | exact h rfl | exact absurd (show true = false from h) (by decide) | exact absurd (show false = true from h) (by decide))) | (refine ⟨_, colsr_h, (c, m), hgr, leVs_of_eq rfl, .inl rfl, rfl, ?_⟩; show norm (I c) _) | (refine ⟨by decide, ?_⟩) | (refine ⟨ju (by omega), ?_⟩) | (refine ⟨by omega, fun r hrr => ?_⟩; first | ((have hre : r = encR row := by (first | exact get_row hrr hrow | fail)); subst hre) | ((have hre : r = e1 y := by (first | exact get_row hrr hy | fail)); subst hre)) | refine get_at k1 ?_ | (rw [hshl]; refine get_at k2 ?_) | refine ⟨⟨by omega, by omega⟩, ?_⟩ | (refine ⟨by omega, ?_⟩) | fail | fail)
      · have hkc : k = c := by omega
        have hres : G S = restF c m S := by rw [hGS, hkc]; exact (rest_row (c := c) hrow).symm
        repeat' ((conv => whnf); first | (refine ⟨(S, _), ⟨?_, by (try dsimp only); omega⟩, [], ⟨⟨rfl, rfl⟩, ⟨⟨rfl, rfl⟩, ⟨⟨rfl, rfl⟩, trivial⟩⟩⟩, ⟨⟨rfl, rfl, rfl⟩, trivial⟩, rfl, rfl, rfl⟩; (try dsimp only); exact ⟨by omega, G, he, hfin G hres hGn⟩) | (refine ⟨fun h => ?_, fun h => ?_⟩ <;> try (exfalso; first | omega | exact absurd h (by decide) | exact h rfl | exact absurd (show true = false from h) (by decide) | exact absurd (show false = true from h) (by decide))) | (refine ⟨_, colsr_h, (c, m), hgr, leVs_of_eq rfl, .inl rfl, rfl, ?_⟩; show norm (I c) _) | refine ⟨⟨by omega, by omega⟩, ?_⟩ | fail | fail)
    · have hres := rest_end (c := c) (m := m) (S := S) hpl
      have k0 : es[(S : Int).toNat]? = some (cI (F S)) := by rw [he]; exact tabN_get (by omega)
      have k3 : (es.set (S : Int).toNat (cI (-1)))[(S : Int).toNat]? = some (cI (-1)) := List.getElem?_set_self (by omega)
      by_cases hpe : popF S = m.length
      · have hres2 := hres.trans (if_pos hpe)
        repeat' ((conv => whnf); first | (refine ⟨(S, _), ⟨?_, by (try dsimp only); omega⟩, [], ⟨⟨rfl, rfl⟩, ⟨⟨rfl, rfl⟩, ⟨⟨rfl, rfl⟩, trivial⟩⟩⟩, ⟨⟨rfl, rfl, rfl⟩, trivial⟩, rfl, rfl, rfl⟩; (try dsimp only); exact ⟨by omega, _, tabN_set2 he, hfin _ ((updF_self _ S _).trans hres2.symm) fun j hj => (updF_ne hj).trans (updF_ne hj)⟩) | (refine ⟨fun h => ?_, fun h => ?_⟩ <;> try (exfalso; first | omega | exact absurd h (by decide) | exact h rfl | exact absurd (show true = false from h) (by decide) | exact absurd (show false = true from h) (by decide))) | (refine ⟨_, taken_h, S, (by show S ≤ 1000000; omega), leVs_of_eq rfl, .inl rfl, rfl, ?_⟩; show norm (I (popF S)) _) | refine ⟨⟨by omega, by omega⟩, ?_⟩ | refine get_at k0 ?_ | refine get_at k3 ?_ | (refine ⟨⟨by omega, by rw [List.length_set]; omega⟩, ?_⟩) | fail | fail)
      · have hres2 := hres.trans (if_neg hpe)
        repeat' ((conv => whnf); first | (refine ⟨(S, _), ⟨?_, by (try dsimp only); omega⟩, [], ⟨⟨rfl, rfl⟩, ⟨⟨rfl, rfl⟩, ⟨⟨rfl, rfl⟩, trivial⟩⟩⟩, ⟨⟨rfl, rfl, rfl⟩, trivial⟩, rfl, rfl, rfl⟩; (try dsimp only); exact ⟨by omega, _, by rw [he]; exact tabN_set, hfin _ ((updF_self _ S _).trans hres2.symm) fun j hj => updF_ne hj⟩) | (refine ⟨fun h => ?_, fun h => ?_⟩ <;> try (exfalso; first | omega | exact absurd h (by decide) | exact h rfl | exact absurd (show true = false from h) (by decide) | exact absurd (show false = true from h) (by decide))) | (refine ⟨_, taken_h, S, (by show S ≤ 1000000; omega), leVs_of_eq rfl, .inl rfl, rfl, ?_⟩; show norm (I (popF S)) _) | refine ⟨⟨by omega, by omega⟩, ?_⟩ | refine get_at k0 ?_ | fail | fail)
  | zero =>
    repeat' ((conv => whnf); first | (refine ⟨fun h => ?_, fun h => ?_⟩ <;> try (exfalso; first | omega | exact absurd h (by decide) | exact h rfl | exact absurd (show true = false from h) (by decide) | exact absurd (show false = true from h) (by decide))) | fail | fail)
    refine ⟨[], rfl, trivial, ?_⟩
    show leV (L 1 es) (L 1 (tabN (2 ^ c) (restF c m)))
    rw [he, hNN, tabN_congr (fun j hj => hF j (Nat.zero_le _) hj)]
    exact leV_refl _
theorem rest_h : Holds Try.prog 82 restS := holds_of mix Try.func82 restLow (fun _ => rfl) restV
theorem greedy_step {c k : Nat} {row : List Int} {rest : List (List Int)} {S : Nat} (hk : k < c) (hb : S.testBit k = false) (hv : vF c row rest S k = minF c (row :: rest) S) (hf : ∀ j, j < k → S.testBit j = false → vF c row rest S j ≠ minF c (row :: rest) S) : greedy c (row :: rest) S = (k : Int) :: greedy c rest (S + 2 ^ k) := by
  rw [greedy, firstK_some hk hb hv hf]

/-! skiarea/skiarearef08.Best -/
def rasgIr : IFn := ⟨72, [.tmp 2, .tmp 3, .tmp 4],
  (.seq (.ops [
    ⟨(some 2), .mov, [.const (.slice none 0 0)], none⟩,
    ⟨(some 3), .mov, [.const (.int .i64 0)], none⟩,
    ⟨(some 4), .mov, [.const (.int .i64 0)], none⟩] false)
  (.seq (.seq (.ops [
    ⟨(some 11), .mov, [.tmp 0], none⟩,
    ⟨(some 12), .call 81, [.tmp 11], none⟩,
    ⟨(some 5), .mov, [.tmp 12], none⟩] false)
  (.seq (.ops [
    ⟨(some 13), .mov, [.tmp 5], none⟩,
    ⟨(some 14), .cmp .neq, [.tmp 13, .const (.int .i64 0)], none⟩] false)
  (.cond (.tmp 14)
    (.seq (.ops [
      ⟨(some 15), .mov, [.tmp 5], none⟩,
      ⟨(some 2), .mov, [.const (.slice none 0 0)], none⟩,
      ⟨(some 3), .mov, [.const (.int .i64 0)], none⟩,
      ⟨(some 4), .mov, [.tmp 15], none⟩] false)
    .ret)
    .skip)))
  (.seq (.ops [
    ⟨(some 16), .mov, [.tmp 0], none⟩,
    ⟨(some 17), .call 82, [.tmp 16], none⟩,
    ⟨(some 6), .mov, [.tmp 17], none⟩] false)
  (.seq (.ops [
    ⟨(some 7), .nilOwn 3 1, [], none⟩] false)
  (.seq (.ops [
    ⟨(some 8), .mov, [.const (.int .i64 0)], none⟩] false)
  (.seq (.seq (.ops [
    ⟨(some 9), .mov, [.const (.int .i64 0)], none⟩] false)
  (.block 0
    (.loop
      (.seq (.seq (.ops [
        ⟨(some 18), .mov, [.tmp 9], none⟩,
        ⟨(some 19), .mov, [.tmp 0], none⟩,
        ⟨(some 20), .len, [.tmp 19], none⟩,
        ⟨(some 21), .cmp .lss, [.tmp 18, .tmp 20], none⟩] false)
      (.cond (.tmp 21)
        .skip
        (.exit 0)))
      (.seq (.block 1
        (.seq (.ops [
          ⟨(some 10), .mov, [.const (.int .i64 0)], none⟩] false)
        (.block 2
          (.loop
            (.seq (.seq (.ops [
              ⟨(some 24), .mov, [.tmp 10], none⟩,
              ⟨(some 25), .mov, [.tmp 0], none⟩,
              ⟨(some 26), .call 83, [.tmp 25], none⟩,
              ⟨(some 27), .cmp .lss, [.tmp 24, .tmp 26], none⟩] false)
            (.cond (.tmp 27)
              .skip
              (.exit 2)))
            (.seq (.block 3
              (.seq (.ops [
                ⟨(some 30), .mov, [.tmp 8], none⟩,
                ⟨(some 31), .mov, [.tmp 10], none⟩,
                ⟨(some 32), .conv .u64, [.tmp 31], none⟩,
                ⟨(some 33), .bin .shr .i64 false, [.tmp 30, .tmp 32], none⟩,
                ⟨(some 34), .bin .rem .i64 false, [.tmp 33, .const (.int .i64 2)], none⟩,
                ⟨(some 35), .cmp .eql, [.tmp 34, .const (.int .i64 0)], none⟩,
                ⟨(some 36), .mov, [.tmp 35], none⟩,
                ⟨(some 37), .mov, [.tmp 0], (some (36, true))⟩,
                ⟨(some 38), .mov, [.tmp 9], (some (36, true))⟩,
                ⟨(some 39), .idx 1, [.tmp 37, .tmp 38], (some (36, true))⟩,
                ⟨(some 40), .load 1 false, [.tmp 39], (some (36, true))⟩,
                ⟨(some 41), .mov, [.tmp 10], (some (36, true))⟩,
                ⟨(some 42), .idx 1, [.tmp 40, .tmp 41], (some (36, true))⟩,
                ⟨(some 43), .load 1 false, [.tmp 42], (some (36, true))⟩,
                ⟨(some 44), .mov, [.tmp 6], (some (36, true))⟩,
                ⟨(some 45), .mov, [.tmp 8], (some (36, true))⟩,
                ⟨(some 46), .mov, [.tmp 10], (some (36, true))⟩,
                ⟨(some 47), .conv .u64, [.tmp 46], (some (36, true))⟩,
                ⟨(some 48), .bin .shl .i64 false, [.const (.int .i64 1), .tmp 47], (some (36, true))⟩,
                ⟨(some 49), .bin .add .i64 false, [.tmp 45, .tmp 48], (some (36, true))⟩,
                ⟨(some 50), .idx 1, [.tmp 44, .tmp 49], (some (36, true))⟩,
                ⟨(some 51), .load 1 false, [.tmp 50], (some (36, true))⟩,
                ⟨(some 52), .bin .add .i64 false, [.tmp 43, .tmp 51], (some (36, true))⟩,
                ⟨(some 53), .mov, [.tmp 6], (some (36, true))⟩,
                ⟨(some 54), .mov, [.tmp 8], (some (36, true))⟩,
                ⟨(some 55), .idx 1, [.tmp 53, .tmp 54], (some (36, true))⟩,
                ⟨(some 56), .load 1 false, [.tmp 55], (some (36, true))⟩,
                ⟨(some 57), .cmp .eql, [.tmp 52, .tmp 56], (some (36, true))⟩,
                ⟨(some 58), .pick, [.tmp 36, .tmp 57, .const (.bool false)], none⟩] true)
              (.cond (.tmp 58)
                (.seq (.ops [
                  ⟨(some 59), .mov, [.tmp 7], none⟩,
                  ⟨(some 60), .mov, [.tmp 10], none⟩,
                  ⟨(some 61), .buildSl 3 1, [.tmp 60], none⟩,
                  ⟨(some 62), .append 3 1 8, [.tmp 59, .tmp 61], none⟩,
                  ⟨(some 7), .mov, [.tmp 62], none⟩] false)
                (.seq (.ops [
                  ⟨(some 63), .mov, [.tmp 8], none⟩,
                  ⟨(some 64), .mov, [.tmp 10], none⟩,
                  ⟨(some 65), .conv .u64, [.tmp 64], none⟩,
                  ⟨(some 66), .bin .shl .i64 false, [.const (.int .i64 1), .tmp 65], none⟩,
                  ⟨(some 67), .bin .add .i64 false, [.tmp 63, .tmp 66], none⟩,
                  ⟨(some 8), .mov, [.tmp 67], none⟩] false)
                (.exit 2)))
                .skip)))
            (.ops [
              ⟨(some 28), .mov, [.tmp 10], none⟩,
              ⟨(some 29), .bin .add .i64 false, [.tmp 28, .const (.int .i64 1)], none⟩,
              ⟨(some 10), .mov, [.tmp 29], none⟩] false)))))))
      (.ops [
        ⟨(some 22), .mov, [.tmp 9], none⟩,
        ⟨(some 23), .bin .add .i64 false, [.tmp 22, .const (.int .i64 1)], none⟩,
        ⟨(some 9), .mov, [.tmp 23], none⟩] false))))))
  (.seq (.ops [
    ⟨(some 68), .mov, [.tmp 7], none⟩,
    ⟨(some 69), .mov, [.tmp 6], none⟩,
    ⟨(some 70), .idx 1, [.tmp 69, .const (.int .i64 0)], none⟩,
    ⟨(some 71), .load 1 false, [.tmp 70], none⟩,
    ⟨(some 2), .mov, [.tmp 68], none⟩,
    ⟨(some 3), .mov, [.tmp 71], none⟩,
    ⟨(some 4), .mov, [.const (.int .i64 0)], none⟩] true)
  .ret)))))))⟩
theorem rasgLow : lowF Try.prog { owns := [(7, 3)] } Try.f53 = some rasgIr := by kernel_rfl
def rasgS : Spec := spec (Nat × List (List Int)) (fun p => [L 1 (p.2.map encR)]) (fun p => GoodR p.1 p.2) (fun p => .tup [L 1 ((greedy p.1 p.2 0).map e1), I (minF p.1 p.2 0), I 0])
set_option maxHeartbeats 2000000 in
theorem rasgV : fnV Try.prog rasgIr rasgS := by
  intro ⟨(c : Nat), (m : List (List Int))⟩ hgr
  replace hgr : GoodR c m := hgr
  obtain ⟨⟨⟨h1, h2⟩, hm⟩, h0⟩ := id hgr
  have hl : (m.map encR).length = m.length := List.length_map ..
  have h256 := pow8 h2
  obtain ⟨N, hNN⟩ : ∃ N, 2 ^ c = N := ⟨_, rfl⟩
  have hNp : 0 < N := by rw [← hNN]; exact Nat.two_pow_pos _
  have htl : (tabN N (restF c m)).length = N := tabN_len _ _
  show vc _ _ _ _ ⟨argEnv 0 [L 1 (m.map encR)], [], 0⟩
  repeat' ((conv => whnf); first | (refine ⟨fun h => ?_, fun h => ?_⟩ <;> try (exfalso; first | omega | exact absurd h (by decide) | exact h rfl | exact absurd (show true = false from h) (by decide) | exact absurd (show false = true from h) (by decide))) | (refine ⟨_, raright_h, (c, m), hgr.1, leVs_of_eq rfl, .inl rfl, rfl, ?_⟩; show norm (I 0) _) | (refine ⟨_, rest_h, (c, m), hgr, leVs_of_eq rfl, .inl rfl, rfl, ?_⟩; show norm (L 1 (tabN (2 ^ c) (restF c m))) _; rw [hNN]) | fail | fail)
  refine ⟨Nat × Nat × (List Int) × (List (List CV)), fun xq => ⟨[(0, L 1 (m.map encR)), (6, L 1 (tabN N (restF c m))), (7, .osl 0), (8, I xq.2.1), (9, I xq.1)], [(0, .row 3 1 xq.2.2.2)], 1⟩, fun xq => (xq.1 ≤ m.length ∧ xq.2.1 < N ∧ popF xq.2.1 = xq.1) ∧ (xq.2.2.1).length = xq.1 ∧ xq.2.2.1 ++ greedy c (m.drop xq.1) xq.2.1 = greedy c m 0 ∧ xq.2.2.2 = (xq.2.2.1).map e1, fun xq => m.length - xq.1, ⟨(0, 0, [], []), ?_, [], ⟨⟨rfl, rfl⟩, ⟨⟨rfl, rfl⟩, ⟨⟨rfl, rfl⟩, ⟨⟨rfl, rfl⟩, ⟨⟨rfl, rfl⟩, trivial⟩⟩⟩⟩⟩, ⟨⟨rfl, rfl, rfl⟩, trivial⟩, rfl, rfl, rfl⟩, ?_⟩
  · (try dsimp only); exact ⟨⟨Nat.zero_le _, hNp, by unfold popF; rfl⟩, rfl, rfl, rfl⟩
  rintro ⟨i, S, ps, es⟩ hk
  obtain ⟨⟨hi, hS, hp⟩, hpl, hg, rfl⟩ : (i ≤ m.length ∧ S < N ∧ popF S = i) ∧ (ps).length = i ∧ ps ++ greedy c (m.drop i) S = greedy c m 0 ∧ es = (ps).map e1 := hk
  (try dsimp only)
  have hS8 : S < 256 := by omega
  have hSc : S < 2 ^ c := by omega
  have hpm : (ps.map e1).length = ps.length := List.length_map ..
  by_cases hil : i < m.length
  · obtain ⟨row, hrow⟩ := getElem_some hil
    obtain ⟨hrl, hrx⟩ := hm row (List.mem_of_getElem? hrow)
    have hlr := len_e1 row
    have hrow' : m[popF S]? = some row := by rw [hp]; exact hrow
    have hdr := drop_cons hrow
    have hmin : restF c m S = minF c (row :: m.drop (i + 1)) S := by rw [rest_row hrow', hp, minF]
    repeat' ((conv => whnf); first | (refine ⟨fun h => ?_, fun h => ?_⟩ <;> try (exfalso; first | omega | exact absurd h (by decide) | exact h rfl | exact absurd (show true = false from h) (by decide) | exact absurd (show false = true from h) (by decide))) | fail | fail)
    refine ⟨Nat, fun xq => ⟨[(0, L 1 (m.map encR)), (6, L 1 (tabN N (restF c m))), (7, .osl 0), (8, I S), (9, I i), (10, I xq)], [(0, .row 3 1 (ps.map e1))], 1⟩, fun xq => xq ≤ c ∧ ∀ j, j < xq → S.testBit j = false → vF c row (m.drop (i + 1)) S j ≠ minF c (row :: m.drop (i + 1)) S, fun xq => c - xq, ⟨0, ?_, [], ⟨⟨rfl, rfl⟩, ⟨⟨rfl, rfl⟩, ⟨⟨rfl, rfl⟩, ⟨⟨rfl, rfl⟩, ⟨⟨rfl, rfl⟩, ⟨⟨rfl, rfl⟩, trivial⟩⟩⟩⟩⟩⟩, ⟨⟨rfl, rfl, rfl⟩, trivial⟩, rfl, rfl, rfl⟩, ?_⟩
    · (try dsimp only); exact ⟨Nat.zero_le _, fun j hj => absurd hj (Nat.not_lt_zero j)⟩
    rintro k hk
    obtain ⟨hk, hno⟩ : k ≤ c ∧ ∀ j, j < k → S.testBit j = false → vF c row (m.drop (i + 1)) S j ≠ minF c (row :: m.drop (i + 1)) S := hk
    (try dsimp only)
    by_cases hkl : k < c
    · cases hb : S.testBit k with
      | true =>
        have hbit := jbit_yes hS8 (by omega) hb
        have hno2 : ∀ j, j < k + 1 → S.testBit j = false → vF c row (m.drop (i + 1)) S j ≠ minF c (row :: m.drop (i + 1)) S := fun j hj hbj => by
          by_cases e : j = k
          · subst e; rw [hb] at hbj; cases hbj
          · exact hno j (by omega) hbj
        repeat' ((conv => whnf); first | (refine ⟨(k + 1), ⟨?_, by (try dsimp only); omega⟩, [], ⟨⟨rfl, rfl⟩, ⟨⟨rfl, rfl⟩, ⟨⟨rfl, rfl⟩, ⟨⟨rfl, rfl⟩, ⟨⟨rfl, rfl⟩, ⟨⟨rfl, rfl⟩, trivial⟩⟩⟩⟩⟩⟩, ⟨⟨rfl, rfl, rfl⟩, trivial⟩, rfl, rfl, rfl⟩; (try dsimp only); exact ⟨by omega, hno2⟩) | (refine ⟨fun h => ?_, fun h => ?_⟩ <;> try (exfalso; first | omega | exact absurd h (by decide) | exact h rfl | exact absurd (show true = false from h) (by decide) | exact absurd (show false = true from h) (by decide))) | (refine ⟨_, colsr_h, (c, m), hgr, leVs_of_eq rfl, .inl rfl, rfl, ?_⟩; show norm (I c) _) | (refine ⟨by decide, ?_⟩) | (refine ⟨ju (by omega), ?_⟩) | (refine ⟨by omega, ?_⟩) | refine ⟨⟨by omega, by omega⟩, ?_⟩ | fail)
      | false =>
        have hbit := jbit_no hS8 (by omega) hb
        have hlt := mask_lt h2 hSc hkl hb
        have hpa := pop_add hS8 (by omega) hb
        obtain ⟨v1, v2⟩ := vF_bound h2 hm h1 hrow' hSc hkl hb
        obtain ⟨y, hy⟩ := getElem_some (show k < row.length by omega)
        obtain ⟨y0, y1⟩ := hrx y (List.mem_of_getElem? hy)
        have hgd : row.getD k 0 = y := by rw [List.getD_eq_getElem?_getD, hy]; rfl
        have hra := rest_at h2 hSc hkl hb (m := m) (by omega)
        have hvk : vF c row (m.drop (i + 1)) S k = y + restF c m (S + 2 ^ k) := by rw [hra, ← hgd, hp]
        rw [← hra] at v1 v2
        have hshl := jshl (k := k) (by omega)
        by_cases hhit : y + restF c m (S + 2 ^ k) = restF c m S
        · have hgs := greedy_step hkl hb (hvk.trans (hhit.trans hmin)) hno
          have hg2 : (ps ++ [(k : Int)]) ++ greedy c (m.drop (i + 1)) (S + 2 ^ k) = greedy c m 0 := by rw [← hg, hdr, hgs, List.append_assoc]; rfl
          have hap : (ps.map e1) ++ [[CV.int .i64 (k : Int)]] = (ps ++ [(k : Int)]).map e1 := (List.map_append (f := e1) (l₁ := ps) (l₂ := [(k : Int)])).symm
          have hpk : (ps ++ [(k : Int)]).length = i + 1 := by simp [hpl]
          generalize hP : 2 ^ k = P at *
          have hcast : (S : Int) + (P : Int) = ((S + P : Nat) : Int) := (Int.natCast_add S P).symm
          repeat' ((conv => whnf); first | (refine ⟨fun h => ?_, fun h => ?_⟩ <;> try (exfalso; first | omega | exact absurd h (by decide) | exact h rfl | exact absurd (show true = false from h) (by decide) | exact absurd (show false = true from h) (by decide))) | (refine ⟨_, colsr_h, (c, m), hgr, leVs_of_eq rfl, .inl rfl, rfl, ?_⟩; show norm (I c) _) | (refine ⟨by decide, ?_⟩) | (refine ⟨ju (by omega), ?_⟩) | (refine ⟨by omega, fun r hrr => ?_⟩; first | ((have hre : r = encR row := by (first | exact get_row hrr hrow | fail)); subst hre) | ((have hre : r = e1 y := by (first | exact get_row hrr hy | fail)); subst hre)) | refine idx_tab (N := N) (H := restF c m) (j := S) rfl (by omega) ?_ | (rw [hshl]; refine idx_tab (N := N) (H := restF c m) (j := S + P) (by omega) (by omega) ?_) | (refine ⟨⟨by simp; omega, by simp; omega⟩, ?_⟩) | refine ⟨⟨by omega, by omega⟩, ?_⟩ | (rw [hshl]; refine ⟨⟨by omega, by omega⟩, ?_⟩) | (refine ⟨by omega, ?_⟩) | fail | fail)
          conv => whnf
          rw [hshl, hcast]
          (refine ⟨(i + 1, S + P, ps ++ [(k : Int)], _), ⟨?_, by (try dsimp only); omega⟩, [(0, 1)], ⟨⟨rfl, rfl⟩, ⟨⟨rfl, rfl⟩, ⟨⟨rfl, rfl⟩, ⟨⟨rfl, rfl⟩, ⟨⟨rfl, rfl⟩, trivial⟩⟩⟩⟩⟩, ⟨⟨rfl, rfl, rfl⟩, trivial⟩, rfl, rfl, rfl⟩; (try dsimp only); exact ⟨⟨by omega, by omega, by omega⟩, hpk, hg2, hap⟩)
        · have hno2 : ∀ j, j < k + 1 → S.testBit j = false → vF c row (m.drop (i + 1)) S j ≠ minF c (row :: m.drop (i + 1)) S := fun j hj hbj => by
            by_cases e : j = k
            · subst e; rw [hvk, ← hmin]; exact hhit
            · exact hno j (by omega) hbj
          generalize hP : 2 ^ k = P at *
          repeat' ((conv => whnf); first | (refine ⟨(k + 1), ⟨?_, by (try dsimp only); omega⟩, [], ⟨⟨rfl, rfl⟩, ⟨⟨rfl, rfl⟩, ⟨⟨rfl, rfl⟩, ⟨⟨rfl, rfl⟩, ⟨⟨rfl, rfl⟩, ⟨⟨rfl, rfl⟩, trivial⟩⟩⟩⟩⟩⟩, ⟨⟨rfl, rfl, rfl⟩, trivial⟩, rfl, rfl, rfl⟩; (try dsimp only); exact ⟨by omega, hno2⟩) | (refine ⟨fun h => ?_, fun h => ?_⟩ <;> try (exfalso; first | omega | exact absurd h (by decide) | exact h rfl | exact absurd (show true = false from h) (by decide) | exact absurd (show false = true from h) (by decide))) | (refine ⟨_, colsr_h, (c, m), hgr, leVs_of_eq rfl, .inl rfl, rfl, ?_⟩; show norm (I c) _) | (refine ⟨by decide, ?_⟩) | (refine ⟨ju (by omega), ?_⟩) | (refine ⟨by omega, fun r hrr => ?_⟩; first | ((have hre : r = encR row := by (first | exact get_row hrr hrow | fail)); subst hre) | ((have hre : r = e1 y := by (first | exact get_row hrr hy | fail)); subst hre)) | refine idx_tab (N := N) (H := restF c m) (j := S) rfl (by omega) ?_ | (rw [hshl]; refine idx_tab (N := N) (H := restF c m) (j := S + P) (by omega) (by omega) ?_) | (refine ⟨⟨by simp; omega, by simp; omega⟩, ?_⟩) | refine ⟨⟨by omega, by omega⟩, ?_⟩ | (rw [hshl]; refine ⟨⟨by omega, by omega⟩, ?_⟩) | (refine ⟨by omega, ?_⟩) | fail | fail)
    · exfalso
      have hex := minF_ex h2 (c := c) (row := row) (rest := m.drop (i + 1)) (S := S) (by rw [← hdr]; exact okM_drop hm i) hSc (by rw [hp, List.length_drop]; omega)
      obtain ⟨j, j1, j2, j3⟩ := hex
      exact hno j (by omega) j2 j3
  · have hie : i = m.length := by omega
    have hg3 : ps = greedy c m 0 := by rw [← hg, hie, List.drop_length, greedy, List.append_nil]
    have hm0 : restF c m 0 = minF c m 0 := by
      have h00 : popF 0 = 0 := by unfold popF; rfl
      unfold restF
      rw [h00, if_neg (by omega), List.drop_zero]
    repeat' ((conv => whnf); first | (refine ⟨fun h => ?_, fun h => ?_⟩ <;> try (exfalso; first | omega | exact absurd h (by decide) | exact h rfl | exact absurd (show true = false from h) (by decide) | exact absurd (show false = true from h) (by decide))) | fail | fail)
    conv => whnf
    refine idx_tab (N := N) (H := restF c m) (j := 0) rfl hNp ?_
    conv => whnf
    refine ⟨[], rfl, trivial, ?_⟩
    show leVs [L 1 (ps.map e1), I (restF c m 0), I 0] [L 1 ((greedy c m 0).map e1), I (minF c m 0), I 0]
    rw [← hg3, ← hm0]
    exact ⟨by first | exact leV_refl _ | rfl, by first | exact leV_refl _ | rfl, by first | exact leV_refl _ | rfl, trivial⟩
theorem rasg_h : Holds Try.prog 53 rasgS := holds_of mix Try.func53 rasgLow (fun _ => rfl) rasgV

end Go.Proofs.Ytoeichkblclfaaa
