/- Shortest paths: the program's Shortest; the ways of a groomer. -/
import Derived.Test.YtoeichkblclfaaaK3
namespace Go.Proofs.Ytoeichkblclfaaa
open Go.RowKit
/-- The least label of a node. -/
def shortO (E : List Ed) (a t : Int) : Option Lab := getM (lengthsF E t) a
def shortT (o : Option Lab) : SV := .tup [.none_, I ((o.map (·.c)).getD 0), B o.isSome]
theorem next_any {E : List Ed} {t : Int} {D : DM} (h : Least E t D) {n : Int} {v : Lab} (hv : D n = some v) (hn : n ≠ t) : E.any (nextB D n v) = true := by
  obtain ⟨e, he, hf, w, hw, hq⟩ := h.next hv hn
  exact List.any_eq_true.2 ⟨e, he, by unfold nextB; rw [hw]; exact decide_eq_true ⟨hf, hq⟩⟩
theorem next_lab {D : DM} {n : Int} {v : Lab} {e : Ed} (h : nextB D n v e = true) : ∃ w, D e.to = some w ∧ e.fr = n ∧ v = plusB w e := by
  unfold nextB at h
  cases hw : D e.to with
  | none => rw [hw] at h; cases h
  | some w => rw [hw] at h; exact ⟨w, rfl, (of_decide_eq_true h).1, (of_decide_eq_true h).2⟩

/-! skiarea/graph.Shortest -/
def shortIr : IFn := ⟨52, [.tmp 6, .tmp 7, .tmp 8],
  (.seq (.ops [
    ⟨(some 6), .mov, [.const (.slice none 0 0)], none⟩,
    ⟨(some 7), .mov, [.const (.int .i64 0)], none⟩,
    ⟨(some 8), .mov, [.const (.bool false)], none⟩] false)
  (.seq (.ops [
    ⟨(some 15), .mov, [.tmp 0], none⟩,
    ⟨(some 16), .mov, [.tmp 2], none⟩,
    ⟨(some 17), .callg 107, [.tmp 15, .tmp 16], none⟩,
    ⟨(some 9), .alloc [.raw (.map none)], [], none⟩,
    ⟨none, .store 1, [.tmp 9, .tmp 17], none⟩] false)
  (.seq (.ops [
    ⟨(some 19), .load 1 false, [.tmp 9], none⟩,
    ⟨(some 20), .mov, [.tmp 1], none⟩,
    ⟨(some 21), .lookup [.int .i64 0, .int .i64 0] 0 true true, [.tmp 19, .tmp 20], none⟩,
    ⟨(some 18), .mov, [.tmp 21], none⟩,
    ⟨(some 22), .extract 0, [.tmp 18], none⟩,
    ⟨(some 23), .extract 1, [.tmp 18], none⟩,
    ⟨(some 10), .alloc [.int .i64 0, .int .i64 0], [], none⟩,
    ⟨none, .store 2, [.tmp 10, .tmp 22], none⟩,
    ⟨(some 11), .mov, [.tmp 23], none⟩] false)
  (.seq (.seq (.ops [
    ⟨(some 24), .mov, [.tmp 11], none⟩,
    ⟨(some 25), .not, [.tmp 24], none⟩] false)
  (.cond (.tmp 25)
    (.seq (.ops [
      ⟨(some 6), .mov, [.const (.slice none 0 0)], none⟩,
      ⟨(some 7), .mov, [.const (.int .i64 0)], none⟩,
      ⟨(some 8), .mov, [.const (.bool false)], none⟩] false)
    .ret)
    .skip))
  (.seq (.ops [
    ⟨(some 12), .nilOwn 3 1, [], none⟩] false)
  (.seq (.seq (.ops [
    ⟨(some 26), .mov, [.tmp 1], none⟩,
    ⟨(some 13), .alloc [.int .i64 0], [], none⟩,
    ⟨none, .store 1, [.tmp 13, .tmp 26], none⟩] false)
  (.block 0
    (.loop
      (.seq (.seq (.ops [
        ⟨(some 27), .load 1 false, [.tmp 13], none⟩,
        ⟨(some 28), .mov, [.tmp 2], none⟩,
        ⟨(some 29), .cmp .neq, [.tmp 27, .tmp 28], none⟩] false)
      (.cond (.tmp 29)
        .skip
        (.exit 0)))
      (.seq (.block 1
        (.seq (.ops [
          ⟨(some 30), .mov, [.tmp 0], none⟩,
          ⟨(some 31), .fn 109, [.tmp 9, .tmp 13], none⟩,
          ⟨(some 32), .callg 108, [.tmp 30, .tmp 31], none⟩,
          ⟨(some 14), .mov, [.tmp 32], none⟩] false)
        (.seq (.seq (.ops [
          ⟨(some 33), .mov, [.tmp 14], none⟩,
          ⟨(some 34), .cmp .lss, [.tmp 33, .const (.int .i64 0)], none⟩] false)
        (.cond (.tmp 34)
          (.seq (.ops [
            ⟨(some 6), .mov, [.const (.slice none 0 0)], none⟩,
            ⟨(some 7), .mov, [.const (.int .i64 0)], none⟩,
            ⟨(some 8), .mov, [.const (.bool false)], none⟩] false)
          .ret)
          .skip))
        (.seq (.ops [
          ⟨(some 35), .mov, [.tmp 12], none⟩,
          ⟨(some 36), .mov, [.tmp 0], none⟩,
          ⟨(some 37), .mov, [.tmp 14], none⟩,
          ⟨(some 38), .idx 4, [.tmp 36, .tmp 37], none⟩,
          ⟨(some 39), .faddr 0, [.tmp 38], none⟩,
          ⟨(some 40), .load 1 false, [.tmp 39], none⟩,
          ⟨(some 41), .buildSl 3 1, [.tmp 40], none⟩,
          ⟨(some 42), .append 3 1 8, [.tmp 35, .tmp 41], none⟩,
          ⟨(some 12), .mov, [.tmp 42], none⟩] false)
        (.ops [
          ⟨(some 43), .mov, [.tmp 0], none⟩,
          ⟨(some 44), .mov, [.tmp 14], none⟩,
          ⟨(some 45), .idx 4, [.tmp 43, .tmp 44], none⟩,
          ⟨(some 46), .faddr 2, [.tmp 45], none⟩,
          ⟨(some 47), .load 1 false, [.tmp 46], none⟩,
          ⟨none, .store 1, [.tmp 13, .tmp 47], none⟩] false)))))
      (.seq (.ops [
        ⟨(some 48), .load 1 false, [.tmp 13], none⟩] false)
      (.ops [
        ⟨(some 13), .alloc [.int .i64 0], [], none⟩,
        ⟨none, .store 1, [.tmp 13, .tmp 48], none⟩] false)))))))
  (.seq (.ops [
    ⟨(some 49), .mov, [.tmp 12], none⟩,
    ⟨(some 50), .faddr 0, [.tmp 10], none⟩,
    ⟨(some 51), .load 1 false, [.tmp 50], none⟩,
    ⟨(some 6), .mov, [.tmp 49], none⟩,
    ⟨(some 7), .mov, [.tmp 51], none⟩,
    ⟨(some 8), .mov, [.const (.bool true)], none⟩] true)
  .ret)))))))⟩
theorem shortLow : lowF Try.prog { owns := [(12, 3)], gvs := [17, 32] } Try.f96 = some shortIr := by kernel_rfl
def shortS : Spec := spec (List Ed × Int × Int) (fun p => [L 4 (p.1.map encD), I p.2.1, I p.2.2]) (fun p => p.1.length ≤ 1000 ∧ OkE p.1) (fun p => shortT (shortO p.1 p.2.1 p.2.2))
set_option maxHeartbeats 2000000 in
theorem shortV : fnV Try.prog shortIr shortS := by
  intro ⟨(l : List Ed), (a : Int), (t : Int)⟩ hx
  obtain ⟨hl0, hE⟩ : l.length ≤ 1000 ∧ OkE l := hx
  have hl : (l.map encD).length = l.length := List.length_map ..
  show vc _ _ _ _ ⟨argEnv 0 [L 4 (l.map encD), I a, I t], [], 0⟩
  obtain ⟨ms, hms⟩ : ∃ ms, lengthsF l t = ms := ⟨_, rfl⟩
  have hL : Least l t (getM ms) := by rw [← hms]; exact lengths_least hE t
  have hB : Bnd (getM ms) 1000000 := by rw [← hms]; exact bnd_lengths hE hl0 t
  have hO : shortO l a t = getM ms a := by unfold shortO; rw [hms]
  have hob : lensS.obs (l, t) = [.map 0 true (kvD ms)] := by show [Ob.map 0 true (kvD (lengthsF l t))] = _; rw [hms]
  cases hv0 : getM ms a with
  | none =>
    repeat' ((conv => whnf); first | (refine ⟨[], _, lens_g, (l, t), ⟨hl0, hE⟩, ⟨trivial, rfl, rfl, rfl⟩, ⟨(by show leV (L 4 (l.map encD)) (L 4 (l.map encD)); exact leV_refl _), (by show leV (I t) (I t); exact leV_refl _), trivial⟩, .inl rfl, ⟨trivial, trivial⟩, ?_⟩; show norm (.mp 0) _; rw [hob]) | (refine look_none rfl hv0 ?_) | (refine ⟨fun h => ?_, fun h => ?_⟩ <;> try (exfalso; first | omega | exact absurd h (by decide) | exact h rfl | exact absurd (show true = false from h) (by decide) | exact absurd (show false = true from h) (by decide))) | fail | fail)
    refine ⟨[], rfl, trivial, ?_⟩
    show leR _ (shortT (shortO l a t))
    rw [hO, hv0]
    exact ⟨trivial, leV_refl _, leV_refl _, trivial⟩
  | some v0 =>
    obtain ⟨⟨hk00, hk01⟩, hv00, hv01⟩ := hB _ _ hv0
    repeat' ((conv => whnf); first | (refine ⟨[], _, lens_g, (l, t), ⟨hl0, hE⟩, ⟨trivial, rfl, rfl, rfl⟩, ⟨(by show leV (L 4 (l.map encD)) (L 4 (l.map encD)); exact leV_refl _), (by show leV (I t) (I t); exact leV_refl _), trivial⟩, .inl rfl, ⟨trivial, trivial⟩, ?_⟩; show norm (.mp 0) _; rw [hob]) | (refine look_some rfl hv0 ?_) | (refine ⟨fun h => ?_, fun h => ?_⟩ <;> try (exfalso; first | omega | exact absurd h (by decide) | exact h rfl | exact absurd (show true = false from h) (by decide) | exact absurd (show false = true from h) (by decide))) | fail | fail)
    refine ⟨Int × Lab × (List (List CV)), fun xq => ⟨[(0, L 4 (l.map encD)), (2, I t), (9, .bp 1 0), (10, .bp 2 0), (12, .osl 3), (13, .bp 4 0)], [(0, .map 0 true (kvD ms)), (1, .box [.mp 0]), (2, .box [.c (.int .i64 v0.c), .c (.int .i64 v0.k)]), (3, .row 3 1 xq.2.2), (4, .box [.c (.int .i64 xq.1)])], 5⟩, fun xq => getM ms xq.1 = some xq.2.1 ∧ ((xq.2.2).length : Int) + xq.2.1.k ≤ 1000000, fun xq => xq.2.1.k.toNat, ⟨(a, v0, []), ?_, [], ⟨⟨rfl, rfl⟩, ⟨⟨rfl, rfl⟩, ⟨⟨rfl, rfl⟩, ⟨⟨rfl, rfl⟩, ⟨⟨rfl, rfl⟩, ⟨⟨rfl, rfl⟩, trivial⟩⟩⟩⟩⟩⟩, ⟨⟨rfl, rfl, rfl⟩, ⟨⟨rfl, rfl, rfl⟩, ⟨⟨rfl, rfl, rfl⟩, ⟨⟨rfl, rfl, rfl⟩, ⟨⟨rfl, rfl, rfl⟩, trivial⟩⟩⟩⟩⟩, rfl, rfl, rfl⟩, ?_⟩
    · (try dsimp only); exact ⟨hv0, by simp; omega⟩
    rintro ⟨n, v, q⟩ hk
    obtain ⟨hv, hq⟩ : getM ms n = some v ∧ ((q).length : Int) + v.k ≤ 1000000 := hk
    (try dsimp only)
    by_cases hn : n = t
    · repeat' ((conv => whnf); first | (refine ⟨fun h => ?_, fun h => ?_⟩ <;> try (exfalso; first | omega | exact absurd h (by decide) | exact h rfl | exact absurd (show true = false from h) (by decide) | exact absurd (show false = true from h) (by decide))) | fail | fail)
      refine ⟨[], rfl, trivial, ?_⟩
      show leR _ (shortT (shortO l a t))
      rw [hO, hv0]
      exact ⟨trivial, leV_refl _, leV_refl _, trivial⟩
    · have hany := next_any hL hv hn
      rcases ix_cases (nextB (getM ms) n v) l with ⟨_, h0⟩ | ⟨k, e, hix, hx, hp, _⟩
      · rw [h0] at hany; cases hany
      · obtain ⟨w, hw, hfr, hvw⟩ := next_lab hp
        have hkv : v.k = w.k + 1 := by rw [hvw]; rfl
        obtain ⟨⟨hk0, hk1⟩, hv1, hv2⟩ := hB _ _ hw
        have hkl := (List.getElem?_eq_some_iff.1 hx).1
        repeat' ((conv => whnf); first | (refine ⟨fun h => ?_, fun h => ?_⟩ <;> try (exfalso; first | omega | exact absurd h (by decide) | exact h rfl | exact absurd (show true = false from h) (by decide) | exact absurd (show false = true from h) (by decide))) | (refine ⟨[1, 4, 0], _, eix_g, ⟨l, ms, n, v⟩, ⟨⟨hv, hB⟩, hl0, hE⟩, ⟨⟨⟨rfl, rfl, rfl⟩, ⟨rfl, rfl, rfl⟩, ⟨rfl, rfl, rfl⟩, trivial⟩, rfl, rfl, rfl⟩, ⟨(by show leV (L 4 (l.map encD)) (L 4 (l.map encD)); exact leV_refl _), ⟨rfl, rfl⟩, trivial⟩, .inl rfl, ⟨⟨trivial, trivial, trivial, trivial⟩, trivial⟩, ?_⟩; show norm (I (ixF (nextB (getM ms) n v) l)) _; rw [hix]) | (refine ⟨by omega, fun r hrr => ?_⟩; first | ((have hre : r = encD e := by (first | exact get_row hrr hx | fail)); subst hre)) | refine ⟨⟨by simp; omega, by simp; omega⟩, ?_⟩ | (refine ⟨(e.to, w, _), ⟨?_, by (try dsimp only); omega⟩, [(3, 5), (4, 6)], ⟨⟨rfl, rfl⟩, ⟨⟨rfl, rfl⟩, ⟨⟨rfl, rfl⟩, ⟨⟨rfl, rfl⟩, ⟨⟨rfl, rfl⟩, ⟨⟨rfl, rfl⟩, trivial⟩⟩⟩⟩⟩⟩, ⟨⟨rfl, rfl, rfl⟩, ⟨⟨rfl, rfl, rfl⟩, ⟨⟨rfl, rfl, rfl⟩, ⟨⟨rfl, rfl, rfl⟩, ⟨⟨rfl, rfl, rfl⟩, trivial⟩⟩⟩⟩⟩, rfl, rfl, rfl⟩; (try dsimp only); exact ⟨hw, by simp; omega⟩) | refine ⟨⟨by omega, by omega⟩, ?_⟩ | fail | fail)
theorem short_h : Holds Try.prog 96 shortS := holds_of mix Try.func96 shortLow (fun _ => rfl) shortV

end Go.Proofs.Ytoeichkblclfaaa
