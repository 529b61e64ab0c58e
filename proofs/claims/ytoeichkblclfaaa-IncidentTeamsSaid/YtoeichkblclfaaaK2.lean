/- Shortest paths: the program. -/
import Derived.Test.YtoeichkblclfaaaT5
import Derived.Test.YtoeichkblclfaaaK1
namespace Go.Proofs.Ytoeichkblclfaaa
open Go.RowKit
abbrev aD (e : Ed) : SV := .agg ((encD e).map .c)
abbrev aB (v : Lab) : SV := .agg ((encB v).map .c)
theorem look_some {ms : List (Int × Lab)} {n : Int} {v : Lab} {kv : List (List Int × List CV)} {K1 : List CV → Prop} {K2 : Prop} (hk : kv = kvD ms) (h : getM ms n = some v) (k : K1 (encB v)) : (∀ l, findKV [n] kv = some l → K1 l) ∧ (findKV [n] kv = none → K2) := by
  subst hk
  have hf := find_kvD n ms
  rw [h] at hf
  exact ⟨fun l hl => (by rw [hf] at hl; cases hl; exact k), fun hn => (by rw [hf] at hn; cases hn)⟩
theorem look_none {ms : List (Int × Lab)} {n : Int} {kv : List (List Int × List CV)} {K1 : List CV → Prop} {K2 : Prop} (hk : kv = kvD ms) (h : getM ms n = none) (k : K2) : (∀ l, findKV [n] kv = some l → K1 l) ∧ (findKV [n] kv = none → K2) := by
  subst hk
  have hf := find_kvD n ms
  rw [h] at hf
  exact ⟨fun l hl => (by rw [hf] at hl; cases hl), fun _ => k⟩
theorem drop_at {E : List Ed} {j : Nat} {e : Ed} (h : E[j]? = some e) : E.drop j = e :: E.drop (j + 1) := by
  obtain ⟨hlt, he⟩ := List.getElem?_eq_some_iff.1 h
  rw [← he]; exact List.drop_eq_getElem_cons hlt
theorem bo_none {ms : List (Int × Lab)} {e : Ed} (h : getM ms e.to = none) : betterO (getM ms) e = none := by unfold betterO; rw [h]
theorem bo_new {ms : List (Int × Lab)} {e : Ed} {w : Lab} (h : getM ms e.to = some w) (h2 : getM ms e.fr = none) : betterO (getM ms) e = some (plusB w e) := by unfold betterO; rw [h, h2]
theorem bo_less {ms : List (Int × Lab)} {e : Ed} {w o : Lab} (h : getM ms e.to = some w) (h2 : getM ms e.fr = some o) (h3 : lessB (plusB w e) o = true) : betterO (getM ms) e = some (plusB w e) := by unfold betterO; rw [h, h2]; exact if_pos h3
theorem bo_not {ms : List (Int × Lab)} {e : Ed} {w o : Lab} (h : getM ms e.to = some w) (h2 : getM ms e.fr = some o) (h3 : lessB (plusB w e) o = false) : betterO (getM ms) e = none := by unfold betterO; rw [h, h2]; exact if_neg (by rw [h3]; decide)
/-- Where a pass stands. -/
structure PassI (E : List Ed) (ms0 : List (Int × Lab)) (B : Int) (j : Nat) (ms : List (Int × Lab)) (ch : Bool) : Prop where
  le : j ≤ E.length
  tab : passT (E.drop j) ms = passT E ms0
  chg : (ch || chgT (E.drop j) ms) = chgT E ms0
  bnd : Bnd (getM ms) (B + j)
theorem PassI.same {E : List Ed} {ms0 ms : List (Int × Lab)} {B : Int} {j : Nat} {ch : Bool} {e : Ed} (h : PassI E ms0 B j ms ch) (he : E[j]? = some e) (hb : betterO (getM ms) e = none) : PassI E ms0 B (j + 1) ms ch := by
  obtain ⟨h1, h2, h3, h4⟩ := h
  have hlt := (List.getElem?_eq_some_iff.1 he).1
  have hs : stepT ms e = ms := by unfold stepT; rw [hb]
  rw [drop_at he] at h2 h3
  refine ⟨hlt, ?_, ?_, h4.mono (by omega)⟩
  · rw [← h2]; show _ = passT (E.drop (j + 1)) (stepT ms e); rw [hs]
  · rw [← h3, chgT, hb, hs]; rfl
theorem PassI.put {E : List Ed} {ms0 ms : List (Int × Lab)} {B : Int} {j : Nat} {ch : Bool} {e : Ed} {v : Lab} (hE : OkE E) (h : PassI E ms0 B j ms ch) (he : E[j]? = some e) (hb : betterO (getM ms) e = some v) : PassI E ms0 B (j + 1) (putM e.fr v ms) true := by
  obtain ⟨h1, h2, h3, h4⟩ := h
  have hlt := (List.getElem?_eq_some_iff.1 he).1
  have hs : stepT ms e = putM e.fr v ms := by unfold stepT; rw [hb]
  rw [drop_at he] at h2 h3
  refine ⟨hlt, ?_, ?_, ?_⟩
  · rw [← h2]; show _ = passT (E.drop (j + 1)) (stepT ms e); rw [hs]
  · rw [← h3, chgT, hb]; cases ch <;> rfl
  · have := bnd_step (hE e (List.mem_of_getElem? he)) h4
    rw [← getM_step, hs] at this
    exact this.mono (by omega)
structure RndI (E : List Ed) (t : Int) (i : Nat) (ms : List (Int × Lab)) : Prop where
  le : i ≤ E.length
  tab : roundsT E (E.length - i) ms = lengthsF E t
  bnd : Bnd (getM ms) (1000 * i)
theorem RndI.next {E : List Ed} {t : Int} {i : Nat} {ms ms' : List (Int × Lab)} {ch : Bool} (hl : E.length ≤ 1000) (h : RndI E t i ms) (hi : i < E.length) (hp : PassI E ms (1000 * i) E.length ms' ch) : (ch = false → ms' = lengthsF E t) ∧ (ch = true → RndI E t (i + 1) ms') := by
  obtain ⟨h1, h2, h3⟩ := h
  obtain ⟨g1, g2, g3, g4⟩ := hp
  rw [List.drop_length] at g2 g3
  have g3' : ch = chgT E ms := by rw [← g3, chgT]; simp
  have g2' : ms' = passT E ms := g2
  have hk : E.length - i = (E.length - (i + 1)) + 1 := by omega
  rw [hk, roundsT, ← g3', ← g2'] at h2
  refine ⟨fun hc => ?_, fun hc => ⟨hi, ?_, g4.mono (by omega)⟩⟩
  · rw [← h2, if_neg (by rw [hc]; decide)]
  · rw [← h2, if_pos hc]
theorem RndI.start {E : List Ed} {ms : List (Int × Lab)} {t : Int} {i : Nat} (h : RndI E t i ms) : PassI E ms (1000 * i) 0 ms false := ⟨Nat.zero_le _, rfl, by rw [List.drop_zero]; rfl, h.bnd.mono (by omega)⟩

/-! skiarea/graph.less -/
def blssIr : IFn := ⟨24, [.tmp 4],
  (.seq (.ops [
    ⟨(some 2), .box, [.tmp 0], none⟩,
    ⟨(some 3), .box, [.tmp 1], none⟩,
    ⟨(some 4), .mov, [.const (.bool false)], none⟩] false)
  (.seq (.ops [
    ⟨(some 5), .faddr 0, [.tmp 2], none⟩,
    ⟨(some 6), .load 1 false, [.tmp 5], none⟩,
    ⟨(some 7), .faddr 0, [.tmp 3], none⟩,
    ⟨(some 8), .load 1 false, [.tmp 7], none⟩,
    ⟨(some 9), .cmp .lss, [.tmp 6, .tmp 8], none⟩,
    ⟨(some 10), .mov, [.tmp 9], none⟩,
    ⟨(some 11), .faddr 0, [.tmp 2], (some (10, false))⟩,
    ⟨(some 12), .load 1 false, [.tmp 11], (some (10, false))⟩,
    ⟨(some 13), .faddr 0, [.tmp 3], (some (10, false))⟩,
    ⟨(some 14), .load 1 false, [.tmp 13], (some (10, false))⟩,
    ⟨(some 15), .cmp .eql, [.tmp 12, .tmp 14], (some (10, false))⟩,
    ⟨(some 16), .mov, [.tmp 15], (some (10, false))⟩,
    ⟨(some 17), .faddr 1, [.tmp 2], (some (16, true))⟩,
    ⟨(some 18), .load 1 false, [.tmp 17], (some (16, true))⟩,
    ⟨(some 19), .faddr 1, [.tmp 3], (some (16, true))⟩,
    ⟨(some 20), .load 1 false, [.tmp 19], (some (16, true))⟩,
    ⟨(some 21), .cmp .lss, [.tmp 18, .tmp 20], (some (16, true))⟩,
    ⟨(some 22), .pick, [.tmp 16, .tmp 21, .const (.bool false)], (some (10, false))⟩,
    ⟨(some 23), .pick, [.tmp 10, .const (.bool true), .tmp 22], none⟩,
    ⟨(some 4), .mov, [.tmp 23], none⟩] false)
  .ret))⟩
theorem blssLow : lowF Try.prog {} Try.f115 = some blssIr := by kernel_rfl
def blssS : Spec := spec (Lab × Lab) (fun p => [aB p.1, aB p.2]) (fun _ => True) (fun p => B (lessB p.1 p.2))
theorem blssV : fnV Try.prog blssIr blssS := by
  intro ⟨(x : Lab), (y : Lab)⟩ hx
  show vc _ _ _ _ ⟨argEnv 0 [aB x, aB y], [], 0⟩
  by_cases h1 : x.c < y.c
  · repeat' ((conv => whnf); first | (refine ⟨fun h => ?_, fun h => ?_⟩ <;> try (exfalso; first | omega | exact absurd h (by decide) | exact h rfl | exact absurd (show true = false from h) (by decide) | exact absurd (show false = true from h) (by decide))) | refine ⟨[], rfl, trivial, congrArg CV.bool ?_⟩ | fail)
    all_goals (exact (less_iff.2 (.inl h1)).symm)
  · by_cases h2 : x.c = y.c
    · by_cases h3 : x.k < y.k
      · repeat' ((conv => whnf); first | (refine ⟨fun h => ?_, fun h => ?_⟩ <;> try (exfalso; first | omega | exact absurd h (by decide) | exact h rfl | exact absurd (show true = false from h) (by decide) | exact absurd (show false = true from h) (by decide))) | refine ⟨[], rfl, trivial, congrArg CV.bool ?_⟩ | fail)
        all_goals (exact (less_iff.2 (.inr ⟨h2, h3⟩)).symm)
      · repeat' ((conv => whnf); first | (refine ⟨fun h => ?_, fun h => ?_⟩ <;> try (exfalso; first | omega | exact absurd h (by decide) | exact h rfl | exact absurd (show true = false from h) (by decide) | exact absurd (show false = true from h) (by decide))) | refine ⟨[], rfl, trivial, congrArg CV.bool ?_⟩ | fail)
        all_goals (exact (not_less.2 (.inr ⟨h2.symm, show y.k ≤ x.k by omega⟩)).symm)
    · repeat' ((conv => whnf); first | (refine ⟨fun h => ?_, fun h => ?_⟩ <;> try (exfalso; first | omega | exact absurd h (by decide) | exact h rfl | exact absurd (show true = false from h) (by decide) | exact absurd (show false = true from h) (by decide))) | refine ⟨[], rfl, trivial, congrArg CV.bool ?_⟩ | fail)
      all_goals (exact (not_less.2 (.inl (show y.c < x.c by omega))).symm)
theorem blss_h : Holds Try.prog 115 blssS := holds_of mix Try.func115 blssLow (fun _ => rfl) blssV
def lensS : GSpec := ⟨List Ed × Int, fun _ => [], fun p => [L 4 (p.1.map encD), I p.2], fun p => p.1.length ≤ 1000 ∧ OkE p.1, fun _ => .mp 0, fun _ => [], fun p => [.map 0 true (kvD (lengthsF p.1 p.2))]⟩

/-! skiarea/graph.lengths -/
def lensIr : IFn := ⟨68, [.tmp 4],
  (.seq (.ops [
    ⟨(some 4), .mov, [.const (.map none)], none⟩] false)
  (.seq (.ops [
    ⟨(some 13), .mkmap 0 true, [], none⟩,
    ⟨(some 14), .mov, [.tmp 1], none⟩,
    ⟨(some 15), .build [.int .i64 0, .int .i64 0] [], [], none⟩,
    ⟨none, .mapset 0 true, [.tmp 13, .tmp 14, .tmp 15], none⟩,
    ⟨(some 16), .mov, [.tmp 13], none⟩,
    ⟨(some 5), .mov, [.tmp 16], none⟩] false)
  (.seq (.seq (.ops [
    ⟨(some 17), .mov, [.tmp 0], none⟩,
    ⟨(some 18), .len, [.tmp 17], none⟩,
    ⟨(some 19), .mov, [.const (.int .i64 0)], none⟩] false)
  (.block 0
    (.loop
      (.seq (.ops [
        ⟨(some 20), .cmp .lss, [.tmp 19, .tmp 18], none⟩] false)
      (.seq (.cond (.tmp 20)
        .skip
        (.exit 0))
      (.seq (.block 1
        (.seq (.ops [
          ⟨(some 6), .mov, [.const (.bool false)], none⟩] false)
        (.seq (.seq (.ops [
          ⟨(some 21), .mov, [.tmp 0], none⟩,
          ⟨(some 22), .len, [.tmp 21], none⟩,
          ⟨(some 23), .mov, [.const (.int .i64 0)], none⟩] false)
        (.block 2
          (.loop
            (.seq (.ops [
              ⟨(some 24), .cmp .lss, [.tmp 23, .tmp 22], none⟩] false)
            (.seq (.cond (.tmp 24)
              .skip
              (.exit 2))
            (.seq (.block 3
              (.seq (.ops [
                ⟨(some 25), .idx 4, [.tmp 21, .tmp 23], none⟩,
                ⟨(some 26), .load 4 true, [.tmp 25], none⟩,
                ⟨(some 8), .alloc [.int .i64 0, .int .i64 0, .int .i64 0, .int .i64 0], [], none⟩,
                ⟨none, .store 4, [.tmp 8, .tmp 26], none⟩] false)
              (.seq (.ops [
                ⟨(some 28), .mov, [.tmp 5], none⟩,
                ⟨(some 29), .faddr 2, [.tmp 8], none⟩,
                ⟨(some 30), .load 1 false, [.tmp 29], none⟩,
                ⟨(some 31), .lookup [.int .i64 0, .int .i64 0] 0 true true, [.tmp 28, .tmp 30], none⟩,
                ⟨(some 27), .mov, [.tmp 31], none⟩,
                ⟨(some 32), .extract 0, [.tmp 27], none⟩,
                ⟨(some 33), .extract 1, [.tmp 27], none⟩,
                ⟨(some 9), .alloc [.int .i64 0, .int .i64 0], [], none⟩,
                ⟨none, .store 2, [.tmp 9, .tmp 32], none⟩,
                ⟨(some 10), .mov, [.tmp 33], none⟩] false)
              (.seq (.seq (.ops [
                ⟨(some 34), .mov, [.tmp 10], none⟩,
                ⟨(some 35), .not, [.tmp 34], none⟩] false)
              (.cond (.tmp 35)
                (.exit 3)
                .skip))
              (.seq (.ops [
                ⟨(some 36), .faddr 0, [.tmp 9], none⟩,
                ⟨(some 37), .load 1 false, [.tmp 36], none⟩,
                ⟨(some 38), .faddr 3, [.tmp 8], none⟩,
                ⟨(some 39), .load 1 false, [.tmp 38], none⟩,
                ⟨(some 40), .bin .add .i64 false, [.tmp 37, .tmp 39], none⟩,
                ⟨(some 41), .faddr 1, [.tmp 9], none⟩,
                ⟨(some 42), .load 1 false, [.tmp 41], none⟩,
                ⟨(some 43), .bin .add .i64 false, [.tmp 42, .const (.int .i64 1)], none⟩,
                ⟨(some 44), .build [.int .i64 0, .int .i64 0] [(0, 1), (1, 1)], [.tmp 40, .tmp 43], none⟩,
                ⟨(some 11), .alloc [.int .i64 0, .int .i64 0], [], none⟩,
                ⟨none, .store 2, [.tmp 11, .tmp 44], none⟩] false)
              (.seq (.ops [
                ⟨(some 46), .mov, [.tmp 5], none⟩,
                ⟨(some 47), .faddr 1, [.tmp 8], none⟩,
                ⟨(some 48), .load 1 false, [.tmp 47], none⟩,
                ⟨(some 49), .lookup [.int .i64 0, .int .i64 0] 0 true true, [.tmp 46, .tmp 48], none⟩,
                ⟨(some 45), .mov, [.tmp 49], none⟩,
                ⟨(some 50), .extract 0, [.tmp 45], none⟩,
                ⟨(some 51), .extract 1, [.tmp 45], none⟩,
                ⟨(some 12), .alloc [.int .i64 0, .int .i64 0], [], none⟩,
                ⟨none, .store 2, [.tmp 12, .tmp 50], none⟩,
                ⟨(some 10), .mov, [.tmp 51], none⟩] false)
              (.seq (.ops [
                ⟨(some 52), .mov, [.tmp 10], none⟩,
                ⟨(some 53), .not, [.tmp 52], none⟩,
                ⟨(some 54), .mov, [.tmp 53], none⟩,
                ⟨(some 55), .load 2 true, [.tmp 11], (some (54, false))⟩,
                ⟨(some 56), .load 2 true, [.tmp 12], (some (54, false))⟩,
                ⟨(some 57), .call 115, [.tmp 55, .tmp 56], (some (54, false))⟩,
                ⟨(some 58), .pick, [.tmp 54, .const (.bool true), .tmp 57], none⟩] false)
              (.cond (.tmp 58)
                (.seq (.ops [
                  ⟨(some 59), .mov, [.tmp 5], none⟩,
                  ⟨(some 60), .faddr 1, [.tmp 8], none⟩,
                  ⟨(some 61), .load 1 false, [.tmp 60], none⟩,
                  ⟨(some 62), .load 2 true, [.tmp 11], none⟩,
                  ⟨none, .mapset 0 true, [.tmp 59, .tmp 61, .tmp 62], none⟩] false)
                (.ops [
                  ⟨(some 6), .mov, [.const (.bool true)], none⟩] false))
                .skip))))))))
            (.ops [
              ⟨(some 63), .bin .add .i64 false, [.tmp 23, .const (.int .i64 1)], none⟩,
              ⟨(some 23), .mov, [.tmp 63], none⟩] false)))))))
        (.seq (.ops [
          ⟨(some 64), .mov, [.tmp 6], none⟩,
          ⟨(some 65), .not, [.tmp 64], none⟩] false)
        (.cond (.tmp 65)
          (.exit 0)
          .skip)))))
      (.ops [
        ⟨(some 66), .bin .add .i64 false, [.tmp 19, .const (.int .i64 1)], none⟩,
        ⟨(some 19), .mov, [.tmp 66], none⟩] false)))))))
  (.seq (.ops [
    ⟨(some 67), .mov, [.tmp 5], none⟩,
    ⟨(some 4), .mov, [.tmp 67], none⟩] false)
  .ret))))⟩
theorem lensLow : lowF Try.prog {} Try.f107 = some lensIr := by kernel_rfl
set_option maxHeartbeats 2000000 in
theorem lensV : fnG Try.prog lensIr lensS := by
  intro ⟨(l : List Ed), (t : Int)⟩ hx
  obtain ⟨hl0, hE⟩ : l.length ≤ 1000 ∧ OkE l := hx
  have hl : (l.map encD).length = l.length := List.length_map ..
  show vc _ _ _ _ ⟨argEnv 0 [L 4 (l.map encD), I t], [], 0⟩
  conv => whnf
  refine ⟨Nat × (List (Int × Lab)) × (List (List Int × List CV)), fun xq => ⟨[(0, L 4 (l.map encD)), (5, .mp 0), (18, I (l.map encD).length), (19, I xq.1)], [(0, .map 0 true xq.2.2)], 1⟩, fun xq => RndI l t xq.1 xq.2.1 ∧ xq.2.2 = kvD xq.2.1, fun xq => l.length - xq.1, ⟨(0, [(t, ⟨0, 0⟩)], _), ?_, [], ⟨⟨rfl, rfl⟩, ⟨⟨rfl, rfl⟩, ⟨⟨rfl, rfl⟩, ⟨⟨rfl, rfl⟩, trivial⟩⟩⟩⟩, ⟨⟨rfl, rfl, rfl⟩, trivial⟩, rfl, rfl, rfl⟩, ?_⟩
  · (try dsimp only); exact ⟨⟨Nat.zero_le _, rfl, bnd_start t⟩, rfl⟩
  rintro ⟨i, ms, kv⟩ hk
  obtain ⟨hr, rfl⟩ : RndI l t i ms ∧ kv = kvD ms := hk
  (try dsimp only)
  have hi := hr.le
  by_cases hil : i < l.length
  · repeat' ((conv => whnf); first | (refine ⟨fun h => ?_, fun h => ?_⟩ <;> try (exfalso; first | omega | exact absurd h (by decide) | exact h rfl | exact absurd (show true = false from h) (by decide) | exact absurd (show false = true from h) (by decide))) | fail | fail)
    refine ⟨Nat × (List (Int × Lab)) × (List (List Int × List CV)) × Bool, fun xq => ⟨[(0, L 4 (l.map encD)), (5, .mp 0), (6, B xq.2.2.2), (18, I (l.map encD).length), (19, I i), (21, L 4 (l.map encD)), (22, I (l.map encD).length), (23, I xq.1)], [(0, .map 0 true xq.2.2.1)], 1⟩, fun xq => PassI l ms (1000 * i) xq.1 xq.2.1 xq.2.2.2 ∧ xq.2.2.1 = kvD xq.2.1, fun xq => l.length - xq.1, ⟨(0, ms, _, false), ?_, [], ⟨⟨rfl, rfl⟩, ⟨⟨rfl, rfl⟩, ⟨⟨rfl, rfl⟩, ⟨⟨rfl, rfl⟩, ⟨⟨rfl, rfl⟩, ⟨⟨rfl, rfl⟩, ⟨⟨rfl, rfl⟩, ⟨⟨rfl, rfl⟩, trivial⟩⟩⟩⟩⟩⟩⟩⟩, ⟨⟨rfl, rfl, rfl⟩, trivial⟩, rfl, rfl, rfl⟩, ?_⟩
    · (try dsimp only); exact ⟨hr.start, rfl⟩
    rintro ⟨j, ms2, kv, ch⟩ hk
    obtain ⟨hp, rfl⟩ : PassI l ms (1000 * i) j ms2 ch ∧ kv = kvD ms2 := hk
    (try dsimp only)
    have hj := hp.le
    by_cases hjl : j < l.length
    · obtain ⟨e, hx⟩ := getElem_some hjl
      obtain ⟨hc0, hc1⟩ := hE e (List.mem_of_getElem? hx)
      cases hw : getM ms2 e.to with
      | none =>
        have hb := bo_none hw
        repeat' ((conv => whnf); first | (refine look_none rfl hw ?_) | (refine ⟨fun h => ?_, fun h => ?_⟩ <;> try (exfalso; first | omega | exact absurd h (by decide) | exact h rfl | exact absurd (show true = false from h) (by decide) | exact absurd (show false = true from h) (by decide))) | (refine ⟨by omega, fun r hrr => ?_⟩; first | ((have hre : r = encD e := by (first | exact get_row hrr hx | fail)); subst hre)) | (refine ⟨(j + 1, ms2, _, ch), ⟨?_, by (try dsimp only); omega⟩, [], ⟨⟨rfl, rfl⟩, ⟨⟨rfl, rfl⟩, ⟨⟨rfl, rfl⟩, ⟨⟨rfl, rfl⟩, ⟨⟨rfl, rfl⟩, ⟨⟨rfl, rfl⟩, ⟨⟨rfl, rfl⟩, ⟨⟨rfl, rfl⟩, trivial⟩⟩⟩⟩⟩⟩⟩⟩, ⟨⟨rfl, rfl, rfl⟩, trivial⟩, rfl, rfl, rfl⟩; (try dsimp only); exact ⟨hp.same hx hb, rfl⟩) | refine ⟨⟨by omega, by omega⟩, ?_⟩ | fail | fail)
      | some w =>
        obtain ⟨⟨hk0, hk1⟩, hv0, hv1⟩ := hp.bnd _ _ hw
        cases ho : getM ms2 e.fr with
        | none =>
          have hb := bo_new hw ho
          repeat' ((conv => whnf); first | (refine look_some rfl hw ?_) | (refine look_none rfl ho ?_) | (refine ⟨fun h => ?_, fun h => ?_⟩ <;> try (exfalso; first | omega | exact absurd h (by decide) | exact h rfl | exact absurd (show true = false from h) (by decide) | exact absurd (show false = true from h) (by decide))) | (refine ⟨by omega, fun r hrr => ?_⟩; first | ((have hre : r = encD e := by (first | exact get_row hrr hx | fail)); subst hre)) | (refine ⟨(j + 1, putM e.fr (plusB w e) ms2, _, true), ⟨?_, by (try dsimp only); omega⟩, [], ⟨⟨rfl, rfl⟩, ⟨⟨rfl, rfl⟩, ⟨⟨rfl, rfl⟩, ⟨⟨rfl, rfl⟩, ⟨⟨rfl, rfl⟩, ⟨⟨rfl, rfl⟩, ⟨⟨rfl, rfl⟩, ⟨⟨rfl, rfl⟩, trivial⟩⟩⟩⟩⟩⟩⟩⟩, ⟨⟨rfl, rfl, rfl⟩, trivial⟩, rfl, rfl, rfl⟩; (try dsimp only); exact ⟨hp.put hE hx hb, set_kvD e.fr (plusB w e) ms2⟩) | refine ⟨⟨by omega, by omega⟩, ?_⟩ | fail | fail)
        | some o =>
          cases hq : lessB (plusB w e) o with
          | true =>
            have hb := bo_less hw ho hq
            repeat' ((conv => whnf); first | (refine look_some rfl hw ?_) | (refine look_some rfl ho ?_) | (refine ⟨fun h => ?_, fun h => ?_⟩ <;> try (exfalso; first | omega | exact absurd h (by decide) | exact h rfl | exact absurd (show true = false from h) (by decide) | exact absurd (show false = true from h) (by decide))) | (refine ⟨by omega, fun r hrr => ?_⟩; first | ((have hre : r = encD e := by (first | exact get_row hrr hx | fail)); subst hre)) | (refine ⟨_, blss_h, (plusB w e, o), trivial, leVs_of_eq rfl, .inl rfl, rfl, ?_⟩; show norm (B (lessB (plusB w e) o)) _; rw [hq]) | (refine ⟨(j + 1, putM e.fr (plusB w e) ms2, _, true), ⟨?_, by (try dsimp only); omega⟩, [], ⟨⟨rfl, rfl⟩, ⟨⟨rfl, rfl⟩, ⟨⟨rfl, rfl⟩, ⟨⟨rfl, rfl⟩, ⟨⟨rfl, rfl⟩, ⟨⟨rfl, rfl⟩, ⟨⟨rfl, rfl⟩, ⟨⟨rfl, rfl⟩, trivial⟩⟩⟩⟩⟩⟩⟩⟩, ⟨⟨rfl, rfl, rfl⟩, trivial⟩, rfl, rfl, rfl⟩; (try dsimp only); exact ⟨hp.put hE hx hb, set_kvD e.fr (plusB w e) ms2⟩) | refine ⟨⟨by omega, by omega⟩, ?_⟩ | fail | fail)
          | false =>
            have hb := bo_not hw ho hq
            repeat' ((conv => whnf); first | (refine look_some rfl hw ?_) | (refine look_some rfl ho ?_) | (refine ⟨fun h => ?_, fun h => ?_⟩ <;> try (exfalso; first | omega | exact absurd h (by decide) | exact h rfl | exact absurd (show true = false from h) (by decide) | exact absurd (show false = true from h) (by decide))) | (refine ⟨by omega, fun r hrr => ?_⟩; first | ((have hre : r = encD e := by (first | exact get_row hrr hx | fail)); subst hre)) | (refine ⟨_, blss_h, (plusB w e, o), trivial, leVs_of_eq rfl, .inl rfl, rfl, ?_⟩; show norm (B (lessB (plusB w e) o)) _; rw [hq]) | (refine ⟨(j + 1, ms2, _, ch), ⟨?_, by (try dsimp only); omega⟩, [], ⟨⟨rfl, rfl⟩, ⟨⟨rfl, rfl⟩, ⟨⟨rfl, rfl⟩, ⟨⟨rfl, rfl⟩, ⟨⟨rfl, rfl⟩, ⟨⟨rfl, rfl⟩, ⟨⟨rfl, rfl⟩, ⟨⟨rfl, rfl⟩, trivial⟩⟩⟩⟩⟩⟩⟩⟩, ⟨⟨rfl, rfl, rfl⟩, trivial⟩, rfl, rfl, rfl⟩; (try dsimp only); exact ⟨hp.same hx hb, rfl⟩) | refine ⟨⟨by omega, by omega⟩, ?_⟩ | fail | fail)
    · have hjl' : j = l.length := by omega
      subst hjl'
      obtain ⟨hN, hM⟩ := hr.next hl0 hil hp
      cases ch with
      | true =>
        repeat' ((conv => whnf); first | (refine ⟨fun h => ?_, fun h => ?_⟩ <;> try (exfalso; first | omega | exact absurd h (by decide) | exact h rfl | exact absurd (show true = false from h) (by decide) | exact absurd (show false = true from h) (by decide))) | refine ⟨⟨by omega, by omega⟩, ?_⟩ | (refine ⟨(i + 1, ms2, _), ⟨?_, by (try dsimp only); omega⟩, [], ⟨⟨rfl, rfl⟩, ⟨⟨rfl, rfl⟩, ⟨⟨rfl, rfl⟩, ⟨⟨rfl, rfl⟩, trivial⟩⟩⟩⟩, ⟨⟨rfl, rfl, rfl⟩, trivial⟩, rfl, rfl, rfl⟩; (try dsimp only); exact ⟨hM rfl, rfl⟩) | fail | fail)
      | false =>
        repeat' ((conv => whnf); first | (refine ⟨fun h => ?_, fun h => ?_⟩ <;> try (exfalso; first | omega | exact absurd h (by decide) | exact h rfl | exact absurd (show true = false from h) (by decide) | exact absurd (show false = true from h) (by decide))) | refine ⟨⟨by omega, by omega⟩, ?_⟩ | fail | fail)
        exact ⟨[0], rfl, rfl, ⟨⟨congrArg (fun m => some (Ob.map 0 true (kvD m))) (hN rfl), rfl⟩, trivial⟩, rfl, rfl⟩
  · have hil' : i = l.length := by omega
    subst hil'
    have hN : ms = lengthsF l t := by rw [← hr.tab, Nat.sub_self, roundsT]
    repeat' ((conv => whnf); first | (refine ⟨fun h => ?_, fun h => ?_⟩ <;> try (exfalso; first | omega | exact absurd h (by decide) | exact h rfl | exact absurd (show true = false from h) (by decide) | exact absurd (show false = true from h) (by decide))) | fail | fail)
    exact ⟨[0], rfl, rfl, ⟨⟨congrArg (fun m => some (Ob.map 0 true (kvD m))) (hN), rfl⟩, trivial⟩, rfl, rfl⟩
theorem lens_g : HoldsG Try.prog 107 lensS := holdsG_of mix Try.func107 lensLow (fun _ => rfl) lensV

end Go.Proofs.Ytoeichkblclfaaa
