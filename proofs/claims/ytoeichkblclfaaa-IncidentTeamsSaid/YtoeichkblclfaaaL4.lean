/- Shortest paths, the reference's: Shortest; costs. -/
import Derived.Test.YtoeichkblclfaaaL3
namespace Go.Proofs.Ytoeichkblclfaaa
open Go.RowKit
theorem next_eq {D : DM} {n : Int} {v : Lab} {e : Ed} (h : nextB D n v e = true) {w : Lab} (hw : D e.to = some w) : e.fr = n ∧ w.c + e.cost = v.c ∧ w.k + 1 = v.k := by
  obtain ⟨w', h1, h2, h3⟩ := next_lab h
  rw [hw] at h1; cases h1
  subst h3; exact ⟨h2, rfl, rfl⟩
theorem next_ne {D : DM} {n : Int} {v : Lab} {e : Ed} (h : nextB D n v e = false) {w : Lab} (hw : D e.to = some w) : ¬ (e.fr = n ∧ w.c + e.cost = v.c ∧ w.k + 1 = v.k) := by
  rintro ⟨h1, h2, h3⟩
  unfold nextB at h
  rw [hw] at h
  refine absurd ⟨h1, ?_⟩ (of_decide_eq_false h)
  cases v; unfold plusB
  rw [Lab.mk.injEq]; exact ⟨h2.symm, h3.symm⟩

/-! skiarea/skiarearef05.Shortest -/
def rshortIr : IFn := ⟨62, [.tmp 6, .tmp 7, .tmp 8],
  (.seq (.ops [
    ⟨(some 6), .mov, [.const (.slice none 0 0)], none⟩,
    ⟨(some 7), .mov, [.const (.int .i64 0)], none⟩,
    ⟨(some 8), .mov, [.const (.bool false)], none⟩] false)
  (.seq (.ops [
    ⟨(some 15), .mov, [.tmp 0], none⟩,
    ⟨(some 16), .mov, [.tmp 2], none⟩,
    ⟨(some 17), .call 98, [.tmp 15, .tmp 16], none⟩,
    ⟨(some 9), .mov, [.tmp 17], none⟩] false)
  (.seq (.ops [
    ⟨(some 18), .mov, [.tmp 9], none⟩,
    ⟨(some 19), .mov, [.tmp 1], none⟩,
    ⟨(some 20), .call 99, [.tmp 18, .tmp 19], none⟩,
    ⟨(some 10), .alloc [.int .i64 0, .int .i64 0, .int .i64 0, .bool false], [], none⟩,
    ⟨none, .store 4, [.tmp 10, .tmp 20], none⟩] false)
  (.seq (.seq (.ops [
    ⟨(some 21), .faddr 3, [.tmp 10], none⟩,
    ⟨(some 22), .load 1 false, [.tmp 21], none⟩,
    ⟨(some 23), .not, [.tmp 22], none⟩] false)
  (.cond (.tmp 23)
    (.seq (.ops [
      ⟨(some 6), .mov, [.const (.slice none 0 0)], none⟩,
      ⟨(some 7), .mov, [.const (.int .i64 0)], none⟩,
      ⟨(some 8), .mov, [.const (.bool false)], none⟩] false)
    .ret)
    .skip))
  (.seq (.ops [
    ⟨(some 11), .nilOwn 3 1, [], none⟩] false)
  (.seq (.seq (.ops [
    ⟨(some 24), .load 4 true, [.tmp 10], none⟩,
    ⟨(some 12), .alloc [.int .i64 0, .int .i64 0, .int .i64 0, .bool false], [], none⟩,
    ⟨none, .store 4, [.tmp 12, .tmp 24], none⟩] false)
  (.block 0
    (.loop
      (.seq (.seq (.ops [
        ⟨(some 25), .faddr 2, [.tmp 12], none⟩,
        ⟨(some 26), .load 1 false, [.tmp 25], none⟩,
        ⟨(some 27), .cmp .gtr, [.tmp 26, .const (.int .i64 0)], none⟩] false)
      (.cond (.tmp 27)
        .skip
        (.exit 0)))
      (.seq (.block 1
        (.seq (.ops [
          ⟨(some 13), .mov, [.const (.int .i64 0)], none⟩] false)
        (.block 2
          (.loop
            (.seq (.seq (.ops [
              ⟨(some 28), .mov, [.tmp 13], none⟩,
              ⟨(some 29), .mov, [.tmp 0], none⟩,
              ⟨(some 30), .len, [.tmp 29], none⟩,
              ⟨(some 31), .cmp .lss, [.tmp 28, .tmp 30], none⟩] false)
            (.cond (.tmp 31)
              .skip
              (.exit 2)))
            (.seq (.block 3
              (.seq (.ops [
                ⟨(some 34), .mov, [.tmp 9], none⟩,
                ⟨(some 35), .mov, [.tmp 0], none⟩,
                ⟨(some 36), .mov, [.tmp 13], none⟩,
                ⟨(some 37), .idx 4, [.tmp 35, .tmp 36], none⟩,
                ⟨(some 38), .faddr 2, [.tmp 37], none⟩,
                ⟨(some 39), .load 1 false, [.tmp 38], none⟩,
                ⟨(some 40), .call 99, [.tmp 34, .tmp 39], none⟩,
                ⟨(some 14), .alloc [.int .i64 0, .int .i64 0, .int .i64 0, .bool false], [], none⟩,
                ⟨none, .store 4, [.tmp 14, .tmp 40], none⟩] false)
              (.seq (.ops [
                ⟨(some 41), .mov, [.tmp 0], none⟩,
                ⟨(some 42), .mov, [.tmp 13], none⟩,
                ⟨(some 43), .idx 4, [.tmp 41, .tmp 42], none⟩,
                ⟨(some 44), .load 4 true, [.tmp 43], none⟩,
                ⟨(some 45), .load 4 true, [.tmp 14], none⟩,
                ⟨(some 46), .call 100, [.tmp 44, .tmp 45], none⟩,
                ⟨(some 47), .load 4 true, [.tmp 12], none⟩,
                ⟨(some 48), .eqa [false, false, false, true] false, [.tmp 46, .tmp 47], none⟩] true)
              (.cond (.tmp 48)
                (.seq (.ops [
                  ⟨(some 49), .mov, [.tmp 11], none⟩,
                  ⟨(some 50), .mov, [.tmp 0], none⟩,
                  ⟨(some 51), .mov, [.tmp 13], none⟩,
                  ⟨(some 52), .idx 4, [.tmp 50, .tmp 51], none⟩,
                  ⟨(some 53), .faddr 0, [.tmp 52], none⟩,
                  ⟨(some 54), .load 1 false, [.tmp 53], none⟩,
                  ⟨(some 55), .buildSl 3 1, [.tmp 54], none⟩,
                  ⟨(some 56), .append 3 1 8, [.tmp 49, .tmp 55], none⟩,
                  ⟨(some 11), .mov, [.tmp 56], none⟩] false)
                (.seq (.ops [
                  ⟨(some 57), .load 4 true, [.tmp 14], none⟩,
                  ⟨none, .store 4, [.tmp 12, .tmp 57], none⟩] false)
                (.exit 2)))
                .skip))))
            (.ops [
              ⟨(some 32), .mov, [.tmp 13], none⟩,
              ⟨(some 33), .bin .add .i64 false, [.tmp 32, .const (.int .i64 1)], none⟩,
              ⟨(some 13), .mov, [.tmp 33], none⟩] false)))))))
      (.seq (.ops [
        ⟨(some 58), .load 4 true, [.tmp 12], none⟩] false)
      (.ops [
        ⟨(some 12), .alloc [.int .i64 0, .int .i64 0, .int .i64 0, .bool false], [], none⟩,
        ⟨none, .store 4, [.tmp 12, .tmp 58], none⟩] false)))))))
  (.seq (.ops [
    ⟨(some 59), .mov, [.tmp 11], none⟩,
    ⟨(some 60), .faddr 1, [.tmp 10], none⟩,
    ⟨(some 61), .load 1 false, [.tmp 60], none⟩,
    ⟨(some 6), .mov, [.tmp 59], none⟩,
    ⟨(some 7), .mov, [.tmp 61], none⟩,
    ⟨(some 8), .mov, [.const (.bool true)], none⟩] true)
  .ret)))))))⟩
theorem rshortLow : lowF Try.prog { owns := [(11, 3)] } Try.f79 = some rshortIr := by kernel_rfl
def rshortS : Spec := spec (List Ed × Int × Int) (fun p => [L 4 (p.1.map encD), I p.2.1, I p.2.2]) (fun p => p.1.length ≤ 1000 ∧ OkE p.1) (fun p => shortT (shortO p.1 p.2.1 p.2.2))
set_option maxHeartbeats 4000000 in
theorem rshortV : fnV Try.prog rshortIr rshortS := by
  intro ⟨(l : List Ed), (a : Int), (t : Int)⟩ hx
  obtain ⟨hl0, hE⟩ : l.length ≤ 1000 ∧ OkE l := hx
  have hl : (l.map encD).length = l.length := List.length_map ..
  obtain ⟨ms, hms⟩ : ∃ ms, lengthsF l t = ms := ⟨_, rfl⟩
  have hL : Least l t (getM ms) := by rw [← hms]; exact lengths_least hE t
  have hB : Bnd (getM ms) 1000000 := by rw [← hms]; exact bnd_lengths hE hl0 t
  have hO : shortO l a t = getM ms a := by unfold shortO; rw [hms]
  have hSp : Supp (putF t (nodesF l)) (getM ms) := by rw [← hms]; exact supp_least hE
  have hNl : (putF t (nodesF l)).length ≤ 2001 := by have h1 := put_len t (nodesF l); have h2 := nodes_len l; omega
  obtain ⟨N, hN⟩ : ∃ N, putF t (nodesF l) = N := ⟨_, rfl⟩
  rw [hN] at hSp hNl
  obtain ⟨T, hT⟩ : ∃ T, tabP N (getM ms) = T := ⟨_, rfl⟩
  have hfT : ∀ n, findP T n = labOf n (getM ms n) := fun n => by rw [← hT]; exact find_tab hSp n
  have hTl : T.length ≤ 2001 := by rw [← hT]; unfold tabP; rw [List.length_map]; exact hNl
  show vc _ _ _ _ ⟨argEnv 0 [L 4 (l.map encD), I a, I t], [], 0⟩
  cases hv0 : getM ms a with
  | none =>
    repeat' ((conv => whnf); first | (refine ⟨fun h => ?_, fun h => ?_⟩ <;> try (exfalso; first | omega | exact absurd h (by decide) | exact h rfl | exact absurd (show true = false from h) (by decide) | exact absurd (show false = true from h) (by decide))) | (refine ⟨_, labels_h, (l, t), ⟨hl0, hE⟩, leVs_of_eq rfl, .inl rfl, rfl, ?_⟩; show norm (L 4 ((tabP (putF t (nodesF l)) (getM (lengthsF l t))).map encP)) _; rw [hms, hN, hT]) | (refine ⟨_, rfind5_h, (T, a), (by show T.length ≤ 1000000; omega), leVs_of_eq rfl, .inl rfl, rfl, ?_⟩; show norm (aP (findP T a)) _; rw [hfT, hv0]; show norm (aP ⟨a, 0, 0, false⟩) _) | fail | fail)
    refine ⟨[], rfl, trivial, ?_⟩
    show leR _ (shortT (shortO l a t))
    rw [hO, hv0]
    exact ⟨trivial, leV_refl _, leV_refl _, trivial⟩
  | some v0 =>
    obtain ⟨⟨hk00, hk01⟩, hv00, hv01⟩ := hB _ _ hv0
    repeat' ((conv => whnf); first | (refine ⟨fun h => ?_, fun h => ?_⟩ <;> try (exfalso; first | omega | exact absurd h (by decide) | exact h rfl | exact absurd (show true = false from h) (by decide) | exact absurd (show false = true from h) (by decide))) | (refine ⟨_, labels_h, (l, t), ⟨hl0, hE⟩, leVs_of_eq rfl, .inl rfl, rfl, ?_⟩; show norm (L 4 ((tabP (putF t (nodesF l)) (getM (lengthsF l t))).map encP)) _; rw [hms, hN, hT]) | (refine ⟨_, rfind5_h, (T, a), (by show T.length ≤ 1000000; omega), leVs_of_eq rfl, .inl rfl, rfl, ?_⟩; show norm (aP (findP T a)) _; rw [hfT, hv0]; show norm (aP ⟨a, v0.c, v0.k, true⟩) _) | fail | fail)
    refine ⟨Int × Lab × (List (List CV)), fun xq => ⟨[(0, L 4 (l.map encD)), (9, L 4 (T.map encP)), (10, .bp 0 0), (11, .osl 1), (12, .bp 2 0)], [(0, .box [.c (.int .i64 a), .c (.int .i64 v0.c), .c (.int .i64 v0.k), .c (.bool true)]), (1, .row 3 1 xq.2.2), (2, .box [.c (.int .i64 xq.1), .c (.int .i64 (xq.2.1).c), .c (.int .i64 (xq.2.1).k), .c (.bool true)])], 3⟩, fun xq => getM ms xq.1 = some xq.2.1 ∧ ((xq.2.2).length : Int) + xq.2.1.k ≤ 1000000, fun xq => xq.2.1.k.toNat, ⟨(a, v0, []), ?_, [], ⟨⟨rfl, rfl⟩, ⟨⟨rfl, rfl⟩, ⟨⟨rfl, rfl⟩, ⟨⟨rfl, rfl⟩, ⟨⟨rfl, rfl⟩, trivial⟩⟩⟩⟩⟩, ⟨⟨rfl, rfl, rfl⟩, ⟨⟨rfl, rfl, rfl⟩, ⟨⟨rfl, rfl, rfl⟩, trivial⟩⟩⟩, rfl, rfl, rfl⟩, ?_⟩
    · (try dsimp only); exact ⟨hv0, by simp; omega⟩
    rintro ⟨n, v, q⟩ hk
    obtain ⟨hv, hq⟩ : getM ms n = some v ∧ ((q).length : Int) + v.k ≤ 1000000 := hk
    (try dsimp only)
    by_cases hvk : v.k ≤ 0
    · repeat' ((conv => whnf); first | (refine ⟨fun h => ?_, fun h => ?_⟩ <;> try (exfalso; first | omega | exact absurd h (by decide) | exact h rfl | exact absurd (show true = false from h) (by decide) | exact absurd (show false = true from h) (by decide))) | fail | fail)
      refine ⟨[], rfl, trivial, ?_⟩
      show leR _ (shortT (shortO l a t))
      rw [hO, hv0]
      exact ⟨trivial, leV_refl _, leV_refl _, trivial⟩
    · have hn : n ≠ t := fun h => hvk ((hL.ne hE hv).1 h)
      have hany := next_any hL hv hn
      repeat' ((conv => whnf); first | (refine ⟨fun h => ?_, fun h => ?_⟩ <;> try (exfalso; first | omega | exact absurd h (by decide) | exact h rfl | exact absurd (show true = false from h) (by decide) | exact absurd (show false = true from h) (by decide))) | fail | fail)
      refine ⟨Nat, fun xq => ⟨[(0, L 4 (l.map encD)), (9, L 4 (T.map encP)), (10, .bp 0 0), (11, .osl 1), (12, .bp 2 0), (13, I xq)], [(0, .box [.c (.int .i64 a), .c (.int .i64 v0.c), .c (.int .i64 v0.k), .c (.bool true)]), (1, .row 3 1 q), (2, .box [.c (.int .i64 n), .c (.int .i64 v.c), .c (.int .i64 v.k), .c (.bool true)])], 3⟩, fun xq => xq ≤ l.length ∧ ∀ y ∈ l.take xq, nextB (getM ms) n v y = false, fun xq => l.length - xq, ⟨0, ?_, [], ⟨⟨rfl, rfl⟩, ⟨⟨rfl, rfl⟩, ⟨⟨rfl, rfl⟩, ⟨⟨rfl, rfl⟩, ⟨⟨rfl, rfl⟩, ⟨⟨rfl, rfl⟩, trivial⟩⟩⟩⟩⟩⟩, ⟨⟨rfl, rfl, rfl⟩, ⟨⟨rfl, rfl, rfl⟩, ⟨⟨rfl, rfl, rfl⟩, trivial⟩⟩⟩, rfl, rfl, rfl⟩, ?_⟩
      · (try dsimp only); exact ⟨Nat.zero_le _, by simp⟩
      rintro i hk
      obtain ⟨hi, h0⟩ : i ≤ l.length ∧ ∀ y ∈ l.take i, nextB (getM ms) n v y = false := hk
      (try dsimp only)
      by_cases hil : i < l.length
      · obtain ⟨e, hx⟩ := getElem_some hil
        obtain ⟨hc0, hc1⟩ := hE e (List.mem_of_getElem? hx)
        have hZb := lab_bnd hB (by omega) e.to
        cases hp : nextB (getM ms) n v e with
        | true =>
          obtain ⟨w, hw, hfr, hvw⟩ := next_lab hp
          have hq2 := next_eq hp hw
          have hkv : v.k = w.k + 1 := by rw [hvw]; rfl
          obtain ⟨⟨hk0, hk1⟩, hv1, hv2⟩ := hB _ _ hw
          rw [hw] at hZb
          repeat' ((conv => whnf); first | (refine ⟨fun h => ?_, fun h => ?_⟩ <;> try (exfalso; first | omega | exact absurd h (by decide) | exact h rfl | exact absurd ⟨hq2.1, hq2.2.1, hq2.2.2, rfl, trivial⟩ h)) | (refine ⟨by omega, fun r hrr => ?_⟩; first | ((have hre : r = encD e := by (first | exact get_row hrr hx | fail)); subst hre)) | (refine ⟨_, rfind5_h, (T, e.to), (by show T.length ≤ 1000000; omega), leVs_of_eq rfl, .inl rfl, rfl, ?_⟩; show norm (aP (findP T e.to)) _; rw [hfT, hw]; show norm (aP ⟨e.to, w.c, w.k, true⟩) _) | (refine ⟨_, rthr_h, (e, ⟨e.to, w.c, w.k, true⟩), ⟨hZb, hc0, hc1⟩, leVs_of_eq rfl, .inl rfl, rfl, ?_⟩; show norm (aP ⟨e.fr, w.c + e.cost, w.k + 1, true⟩) _) | (refine ⟨(e.to, w, _), ⟨?_, by (try dsimp only); omega⟩, [(1, 4), (2, 5)], ⟨⟨rfl, rfl⟩, ⟨⟨rfl, rfl⟩, ⟨⟨rfl, rfl⟩, ⟨⟨rfl, rfl⟩, ⟨⟨rfl, rfl⟩, trivial⟩⟩⟩⟩⟩, ⟨⟨rfl, rfl, rfl⟩, ⟨⟨rfl, rfl, rfl⟩, ⟨⟨rfl, rfl, rfl⟩, trivial⟩⟩⟩, rfl, rfl, rfl⟩; (try dsimp only); exact ⟨hw, by simp; omega⟩) | (refine And.intro (And.intro (by simp; omega) (by simp; omega)) ?_) | (refine And.intro (And.intro (by omega) (by omega)) ?_) | fail | fail)
        | false =>
          cases hw : getM ms e.to with
          | none =>
            rw [hw] at hZb
            repeat' ((conv => whnf); first | (refine ⟨fun h => ?_, fun h => ?_⟩ <;> try (exfalso; first | omega | exact absurd h (by decide) | exact h rfl | exact absurd (show false = true from h.2.2.2.1) (by decide))) | (refine ⟨by omega, fun r hrr => ?_⟩; first | ((have hre : r = encD e := by (first | exact get_row hrr hx | fail)); subst hre)) | (refine ⟨_, rfind5_h, (T, e.to), (by show T.length ≤ 1000000; omega), leVs_of_eq rfl, .inl rfl, rfl, ?_⟩; show norm (aP (findP T e.to)) _; rw [hfT, hw]; show norm (aP ⟨e.to, 0, 0, false⟩) _) | (refine ⟨_, rthr_h, (e, ⟨e.to, 0, 0, false⟩), ⟨hZb, hc0, hc1⟩, leVs_of_eq rfl, .inl rfl, rfl, ?_⟩; show norm (aP ⟨e.fr, 0 + e.cost, 0 + 1, false⟩) _) | (refine ⟨i + 1, ⟨?_, by (try dsimp only); omega⟩, [], ⟨⟨rfl, rfl⟩, ⟨⟨rfl, rfl⟩, ⟨⟨rfl, rfl⟩, ⟨⟨rfl, rfl⟩, ⟨⟨rfl, rfl⟩, ⟨⟨rfl, rfl⟩, trivial⟩⟩⟩⟩⟩⟩, ⟨⟨rfl, rfl, rfl⟩, ⟨⟨rfl, rfl, rfl⟩, ⟨⟨rfl, rfl, rfl⟩, trivial⟩⟩⟩, rfl, rfl, rfl⟩; (try dsimp only); exact ⟨by omega, first_step hx h0 hp⟩) | (refine And.intro (And.intro (by omega) (by omega)) ?_) | fail | fail)
          | some w =>
            have hq2 := next_ne hp hw
            rw [hw] at hZb
            repeat' ((conv => whnf); first | (refine ⟨fun h => ?_, fun h => ?_⟩ <;> try (exfalso; first | omega | exact absurd h (by decide) | exact h rfl | exact hq2 ⟨h.1, h.2.1, h.2.2.1⟩)) | (refine ⟨by omega, fun r hrr => ?_⟩; first | ((have hre : r = encD e := by (first | exact get_row hrr hx | fail)); subst hre)) | (refine ⟨_, rfind5_h, (T, e.to), (by show T.length ≤ 1000000; omega), leVs_of_eq rfl, .inl rfl, rfl, ?_⟩; show norm (aP (findP T e.to)) _; rw [hfT, hw]; show norm (aP ⟨e.to, w.c, w.k, true⟩) _) | (refine ⟨_, rthr_h, (e, ⟨e.to, w.c, w.k, true⟩), ⟨hZb, hc0, hc1⟩, leVs_of_eq rfl, .inl rfl, rfl, ?_⟩; show norm (aP ⟨e.fr, w.c + e.cost, w.k + 1, true⟩) _) | (refine ⟨i + 1, ⟨?_, by (try dsimp only); omega⟩, [], ⟨⟨rfl, rfl⟩, ⟨⟨rfl, rfl⟩, ⟨⟨rfl, rfl⟩, ⟨⟨rfl, rfl⟩, ⟨⟨rfl, rfl⟩, ⟨⟨rfl, rfl⟩, trivial⟩⟩⟩⟩⟩⟩, ⟨⟨rfl, rfl, rfl⟩, ⟨⟨rfl, rfl, rfl⟩, ⟨⟨rfl, rfl, rfl⟩, trivial⟩⟩⟩, rfl, rfl, rfl⟩; (try dsimp only); exact ⟨by omega, first_step hx h0 hp⟩) | (refine And.intro (And.intro (by omega) (by omega)) ?_) | fail | fail)
      · rw [take_end hil] at h0
        exact absurd hany (by rw [Bool.not_eq_true, List.any_eq_false]; intro y hy; rw [h0 y hy]; exact Bool.false_ne_true)
theorem rshort_h : Holds Try.prog 79 rshortS := holds_of mix Try.func79 rshortLow (fun _ => rfl) rshortV
def costR (m : Mp) (node run : Int) : Int := match runOf m run with
  | none => 1000000
  | some x => match shortO (bothF m) node x.frm with
    | none => 1000000
    | some v => Min.min v.c 1000000
theorem both_node {m : Mp} (hm : MapOk m) {e : Ed} (he : e ∈ bothF m) : (nodeOf m e.fr).isSome = true := by
  obtain ⟨x, hx, ho, _⟩ := edges_of _ e he
  have := (hm.tr x (by rw [List.mem_append] at hx ⊢; exact hx.symm)).1
  rcases ho with ⟨h, _⟩ | ⟨h, _⟩
  · rw [h]; exact this.1
  · rw [h]; exact this.2
theorem run_node {m : Mp} (hm : MapOk m) {r : Int} {x : Rn} (h : runOf m r = some x) : (nodeOf m x.frm).isSome = true := by
  have hx : x ∈ m.runs := List.mem_of_find?_eq_some h
  exact (hm.tr (runT x) (List.mem_append_right _ (List.mem_map.2 ⟨x, hx, rfl⟩))).1.1
/-- The program's costs are the reference's. -/
theorem cost_eq {m : Mp} (hm : MapOk m) (node run : Int) : costR m node run = costF m node run := by
  unfold costR costF
  cases hr : runOf m run with
  | none => rfl
  | some x =>
    dsimp only
    have hx := run_node hm hr
    have hq : shortO (bothF m) node x.frm = shortO (linesF m) node x.frm := least_uniq (lengths_least hm.both.2 _) (lengths_least hm.lines.2 _) (lines_both m).2 (lines_both m).1 node
    rw [hq]
    unfold wayO
    by_cases hn : (nodeOf m node).isSome = true
    · rw [if_pos ⟨hn, hx⟩]
      cases shortO (linesF m) node x.frm <;> rfl
    · rw [if_neg (fun h => hn h.1)]
      cases hs : shortO (linesF m) node x.frm with
      | none => rfl
      | some v =>
        exfalso
        rw [← hq] at hs
        have hw := (lengths_least hm.both.2 x.frm).sound node v hs
        cases hw with
        | nil => exact hn hx
        | cons he _ => exact hn (both_node hm he)

/-! skiarea/skiarearef57.Cost -/
def rcostIr : IFn := ⟨34, [.tmp 6],
  (.seq (.ops [
    ⟨(some 3), .box, [.tmp 0], none⟩,
    ⟨(some 6), .mov, [.const (.int .i64 0)], none⟩] false)
  (.seq (.ops [
    ⟨(some 13), .load 4 true, [.tmp 3], none⟩,
    ⟨(some 14), .mov, [.tmp 2], none⟩,
    ⟨(some 15), .call 78, [.tmp 13, .tmp 14], none⟩,
    ⟨(some 12), .mov, [.tmp 15], none⟩,
    ⟨(some 16), .extract 0, [.tmp 12], none⟩,
    ⟨(some 17), .extract 1, [.tmp 12], none⟩,
    ⟨(some 7), .alloc [.int .i64 0, .int .i64 0, .int .i64 0, .int .i64 0, .int .i64 0, .int .i64 0, .int .i64 0], [], none⟩,
    ⟨none, .store 7, [.tmp 7, .tmp 16], none⟩,
    ⟨(some 8), .mov, [.tmp 17], none⟩] false)
  (.seq (.seq (.ops [
    ⟨(some 18), .mov, [.tmp 8], none⟩,
    ⟨(some 19), .not, [.tmp 18], none⟩] false)
  (.cond (.tmp 19)
    (.seq (.ops [
      ⟨(some 6), .mov, [.const (.int .i64 1000000)], none⟩] false)
    .ret)
    .skip))
  (.seq (.ops [
    ⟨(some 21), .load 4 true, [.tmp 3], none⟩,
    ⟨(some 22), .call 80, [.tmp 21], none⟩,
    ⟨(some 23), .mov, [.tmp 1], none⟩,
    ⟨(some 24), .faddr 2, [.tmp 7], none⟩,
    ⟨(some 25), .load 1 false, [.tmp 24], none⟩,
    ⟨(some 26), .call 79, [.tmp 22, .tmp 23, .tmp 25], none⟩,
    ⟨(some 20), .mov, [.tmp 26], none⟩,
    ⟨(some 27), .extract 0, [.tmp 20], none⟩,
    ⟨(some 28), .extract 1, [.tmp 20], none⟩,
    ⟨(some 29), .extract 2, [.tmp 20], none⟩,
    ⟨(some 9), .mov, [.tmp 27], none⟩,
    ⟨(some 10), .mov, [.tmp 28], none⟩,
    ⟨(some 11), .mov, [.tmp 29], none⟩] true)
  (.seq (.seq (.ops [
    ⟨(some 30), .mov, [.tmp 11], none⟩,
    ⟨(some 31), .not, [.tmp 30], none⟩] false)
  (.cond (.tmp 31)
    (.seq (.ops [
      ⟨(some 6), .mov, [.const (.int .i64 1000000)], none⟩] false)
    .ret)
    .skip))
  (.seq (.ops [
    ⟨(some 32), .mov, [.tmp 10], none⟩,
    ⟨(some 33), .min, [.tmp 32, .const (.int .i64 1000000)], none⟩,
    ⟨(some 6), .mov, [.tmp 33], none⟩] false)
  .ret))))))⟩
theorem rcostLow : lowF Try.prog {} Try.f52 = some rcostIr := by kernel_rfl
def rcostS : Spec := spec (Mp × Int × Int) (fun p => [aM p.1, I p.2.1, I p.2.2]) (fun p => MapOk p.1) (fun p => I (costF p.1 p.2.1 p.2.2))
theorem rcostV : fnV Try.prog rcostIr rcostS := by
  intro ⟨(m : Mp), (n : Int), (r : Int)⟩ hm
  replace hm : MapOk m := hm
  show vc _ _ _ _ ⟨argEnv 0 [aM m, I n, I r], [], 0⟩
  cases hr : runOf m r with
  | none =>
    repeat' ((conv => whnf); first | (refine ⟨fun h => ?_, fun h => ?_⟩ <;> try (exfalso; first | omega | exact absurd h (by decide) | exact h rfl | exact absurd (show true = false from h) (by decide) | exact absurd (show false = true from h) (by decide))) | (refine ⟨_, rrun_h, (m, r), hm.ok, leVs_of_eq rfl, .inl rfl, rfl, ?_⟩; show norm (foundT encU run0 (runOf m r)) _; rw [hr]; show norm (.tup [aU run0, B false]) _) | fail | fail)
    refine ⟨[], rfl, trivial, congrArg (CV.int .i64) ?_⟩
    show _ = costF m n r
    rw [← cost_eq hm]
    unfold costR
    rw [hr]
  | some x =>
    cases hw : shortO (bothF m) n x.frm with
    | none =>
      repeat' ((conv => whnf); first | (refine ⟨fun h => ?_, fun h => ?_⟩ <;> try (exfalso; first | omega | exact absurd h (by decide) | exact h rfl | exact absurd (show true = false from h) (by decide) | exact absurd (show false = true from h) (by decide))) | (refine ⟨_, rrun_h, (m, r), hm.ok, leVs_of_eq rfl, .inl rfl, rfl, ?_⟩; show norm (foundT encU run0 (runOf m r)) _; rw [hr]; show norm (.tup [aU x, B true]) _) | (refine ⟨_, both_h, m, hm, leVs_of_eq rfl, .inl rfl, rfl, ?_⟩; show norm (L 4 ((bothF m).map encD)) _) | (refine ⟨_, rshort_h, (bothF m, n, x.frm), hm.both, leVs_of_eq rfl, .inl rfl, rfl, ?_⟩; show norm (shortT (shortO (bothF m) n x.frm)) _; rw [hw]; show norm (.tup [.none_, I 0, B false]) _) | fail | fail)
      refine ⟨[], rfl, trivial, congrArg (CV.int .i64) ?_⟩
      show _ = costF m n r
      rw [← cost_eq hm]
      unfold costR
      rw [hr]
      dsimp only
      rw [hw]
    | some v =>
      repeat' ((conv => whnf); first | (refine ⟨fun h => ?_, fun h => ?_⟩ <;> try (exfalso; first | omega | exact absurd h (by decide) | exact h rfl | exact absurd (show true = false from h) (by decide) | exact absurd (show false = true from h) (by decide))) | (refine ⟨_, rrun_h, (m, r), hm.ok, leVs_of_eq rfl, .inl rfl, rfl, ?_⟩; show norm (foundT encU run0 (runOf m r)) _; rw [hr]; show norm (.tup [aU x, B true]) _) | (refine ⟨_, both_h, m, hm, leVs_of_eq rfl, .inl rfl, rfl, ?_⟩; show norm (L 4 ((bothF m).map encD)) _) | (refine ⟨_, rshort_h, (bothF m, n, x.frm), hm.both, leVs_of_eq rfl, .inl rfl, rfl, ?_⟩; show norm (shortT (shortO (bothF m) n x.frm)) _; rw [hw]; show norm (.tup [.none_, I v.c, B true]) _) | fail | fail)
      refine ⟨[], rfl, trivial, congrArg (CV.int .i64) ?_⟩
      show _ = costF m n r
      rw [← cost_eq hm]
      unfold costR
      rw [hr]
      dsimp only
      rw [hw]
theorem rcost_h : Holds Try.prog 52 rcostS := holds_of mix Try.func52 rcostLow (fun _ => rfl) rcostV

end Go.Proofs.Ytoeichkblclfaaa
