/- Rides: Merge. -/
import Derived.Test.YtfghmpfiemmbgaaF5
import Derived.Test.YtfghmpfiemmbgaaC2
import Derived.Test.YtfghmpfiemmbgaaShelf
namespace Go.Proofs.Ytfghmpfiemmbgaa
open Go.RowKit

theorem row_start (a b : List Ride) : some (Ob.row 28 7 (a.map encR)) = some (Ob.row 28 7 ((a ++ (b.take 0).filter (fresh a)).map encR)) := by simp
def kvOf (l : List Ride) : List (List Int × List CV) := l.map fun r => ([r.gate, r.seq], encR r)
theorem setKV_new {k : List Int} {v : List CV} : ∀ {kv : List (List Int × List CV)}, (∀ p ∈ kv, k ≠ p.1) → setKV k v kv = kv ++ [(k, v)]
  | [], _ => rfl
  | p :: r, h => by rw [setKV, if_neg (h p (by simp)), setKV_new (fun q hq => h q (by simp [hq]))]; rfl
theorem kv_step {a : List Ride} (sa : Sorted a) {k : Nat} {x : Ride} (hx : a[k]? = some x) : some (Ob.map 2 true (setKV [x.gate, x.seq] (encR x) (kvOf (a.take k)))) = some (Ob.map 2 true (kvOf (a.take (k + 1)))) := by
  rw [setKV_new, List.take_add_one, hx]
  · unfold kvOf; rw [List.map_append]; rfl
  · intro p hp e
    obtain ⟨y, hy, rfl⟩ := List.mem_map.1 hp
    simp at e
    have hlt : k < a.length := (List.getElem?_eq_some_iff.1 hx).1
    obtain ⟨j, hj⟩ := List.getElem?_of_mem hy
    rw [List.getElem?_take] at hj
    split at hj
    · rename_i hjk
      have hbf : before y x := by
        have h1 := List.pairwise_iff_getElem.1 sa j k (by omega) hlt hjk
        rw [(List.getElem?_eq_some_iff.1 hj).2, (List.getElem?_eq_some_iff.1 hx).2] at h1
        exact h1
      exact before_key hbf (key_eq.2 ⟨e.1.symm, e.2.symm⟩)
    · cases hj
theorem kv_find {a : List Ride} (sa : Sorted a) {x : Ride} {l : List CV} (h : findKV [x.gate, x.seq] (kvOf a) = some l) : ∃ s ∈ a, key s = key x ∧ l = encR s := by
  induction a with
  | nil => cases h
  | cons y r ih =>
    unfold kvOf at h
    rw [List.map_cons, findKV] at h
    split at h
    · rename_i e
      cases h
      simp at e
      exact ⟨y, by simp, key_eq.2 ⟨e.1.symm, e.2.symm⟩, rfl⟩
    · obtain ⟨s, hs, h⟩ := ih (List.pairwise_cons.1 sa).2 h
      exact ⟨s, by simp [hs], h⟩
open Go.Sort Go.Shelf in
theorem swoR : Go.Sort.SWO (ltOf fun x y : {_x : Ride // True} => cmpR x.1 y.1) := {
  irrefl := fun x => by simp only [ltOf, decide_eq_false_iff_not, cmpR_lt]; exact before_irrefl _
  trans := fun x y z h1 h2 => by simp only [ltOf, decide_eq_true_eq, cmpR_lt] at *; exact before_trans h1 h2
  ntrans := fun x y z h1 h2 => by simp only [ltOf, decide_eq_false_iff_not, cmpR_lt] at *; unfold before at *; omega }
theorem sortRide_h : HoldsM Try.prog 33 (sortM 28 7 encR 29 [] (fun _ => True) cmpR) :=
  haveI : Inhabited {_x : Ride // True} := ⟨⟨⟨0, 0, 0, 0, 0, 0, 0⟩, trivial⟩⟩
  sort_holds (k := 7) (cR := encR) Try.sortR (fun _ => by kernel_rfl) (fun _ => by kernel_rfl) (fun x c hc => by simp [encR] at hc; rcases hc with rfl | rfl | rfl | rfl | rfl | rfl | rfl <;> rfl) (fun _ => rfl) cmpR swoR 29 [] (by kernel_rfl) (fun x F w vs _ hF hr => order_h x F w vs trivial hF hr) 28
theorem kv_none {a : List Ride} {x : Ride} (h : findKV [x.gate, x.seq] (kvOf a) = none) : fresh a x = true := by
  rw [fresh_iff]
  induction a with
  | nil => simp
  | cons y r ih =>
    unfold kvOf at h
    rw [List.map_cons, findKV] at h
    split at h
    · cases h
    · rename_i e
      intro s hs
      rcases List.mem_cons.1 hs with rfl | hs
      · intro hk
        rw [key_eq] at hk
        exact e (by simp [hk.1, hk.2])
      · exact ih h s hs

/-! skiarea/rides.Merge -/
def mergeIr : IFn := ⟨68, [.tmp 4, .tmp 5],
  (.seq (.ops [
    ⟨(some 4), .mov, [.const (.slice none 0 0)], none⟩,
    ⟨(some 5), .mov, [.const (.int .i64 0)], none⟩] false)
  (.seq (.ops [
    ⟨(some 14), .mov, [.tmp 0], none⟩,
    ⟨(some 15), .len, [.tmp 14], none⟩,
    ⟨(some 16), .mkmap 2 true, [.tmp 15], none⟩,
    ⟨(some 6), .mov, [.tmp 16], none⟩] false)
  (.seq (.seq (.ops [
    ⟨(some 17), .mov, [.tmp 0], none⟩,
    ⟨(some 18), .len, [.tmp 17], none⟩,
    ⟨(some 19), .mov, [.const (.int .i64 0)], none⟩] false)
  (.block 0
    (.loop
      (.seq (.ops [
        ⟨(some 20), .cmp .lss, [.tmp 19, .tmp 18], none⟩] false)
      (.seq (.cond (.tmp 20)
        .skip
        (.exit 0))
      (.seq (.block 1
        (.seq (.ops [
          ⟨(some 21), .idx 7, [.tmp 17, .tmp 19], none⟩,
          ⟨(some 22), .load 7 true, [.tmp 21], none⟩,
          ⟨(some 8), .alloc [.int .i64 0, .int .i64 0, .int .i64 0, .int .i64 0, .int .i64 0, .int .i64 0, .int .i64 0], [], none⟩,
          ⟨none, .store 7, [.tmp 8, .tmp 22], none⟩] false)
        (.ops [
          ⟨(some 23), .mov, [.tmp 6], none⟩,
          ⟨(some 24), .faddr 0, [.tmp 8], none⟩,
          ⟨(some 25), .load 1 false, [.tmp 24], none⟩,
          ⟨(some 26), .faddr 1, [.tmp 8], none⟩,
          ⟨(some 27), .load 1 false, [.tmp 26], none⟩,
          ⟨(some 28), .build [.int .i64 0, .int .i64 0] [(0, 1), (1, 1)], [.tmp 25, .tmp 27], none⟩,
          ⟨(some 29), .load 7 true, [.tmp 8], none⟩,
          ⟨none, .mapset 2 true, [.tmp 23, .tmp 28, .tmp 29], none⟩] false)))
      (.ops [
        ⟨(some 30), .bin .add .i64 false, [.tmp 19, .const (.int .i64 1)], none⟩,
        ⟨(some 19), .mov, [.tmp 30], none⟩] false)))))))
  (.seq (.ops [
    ⟨(some 31), .mov, [.tmp 0], none⟩,
    ⟨(some 32), .callo 32, [.tmp 31], none⟩,
    ⟨(some 9), .mov, [.tmp 32], none⟩] false)
  (.seq (.seq (.ops [
    ⟨(some 33), .mov, [.tmp 1], none⟩,
    ⟨(some 34), .len, [.tmp 33], none⟩,
    ⟨(some 35), .mov, [.const (.int .i64 0)], none⟩] false)
  (.block 2
    (.loop
      (.seq (.ops [
        ⟨(some 36), .cmp .lss, [.tmp 35, .tmp 34], none⟩] false)
      (.seq (.cond (.tmp 36)
        .skip
        (.exit 2))
      (.seq (.block 3
        (.seq (.ops [
          ⟨(some 37), .idx 7, [.tmp 33, .tmp 35], none⟩,
          ⟨(some 38), .load 7 true, [.tmp 37], none⟩,
          ⟨(some 11), .alloc [.int .i64 0, .int .i64 0, .int .i64 0, .int .i64 0, .int .i64 0, .int .i64 0, .int .i64 0], [], none⟩,
          ⟨none, .store 7, [.tmp 11, .tmp 38], none⟩] false)
        (.seq (.ops [
          ⟨(some 40), .mov, [.tmp 6], none⟩,
          ⟨(some 41), .faddr 0, [.tmp 11], none⟩,
          ⟨(some 42), .load 1 false, [.tmp 41], none⟩,
          ⟨(some 43), .faddr 1, [.tmp 11], none⟩,
          ⟨(some 44), .load 1 false, [.tmp 43], none⟩,
          ⟨(some 45), .build [.int .i64 0, .int .i64 0] [(0, 1), (1, 1)], [.tmp 42, .tmp 44], none⟩,
          ⟨(some 46), .lookup [.int .i64 0, .int .i64 0, .int .i64 0, .int .i64 0, .int .i64 0, .int .i64 0, .int .i64 0] 2 true true, [.tmp 40, .tmp 45], none⟩,
          ⟨(some 39), .mov, [.tmp 46], none⟩,
          ⟨(some 47), .extract 0, [.tmp 39], none⟩,
          ⟨(some 48), .extract 1, [.tmp 39], none⟩,
          ⟨(some 12), .alloc [.int .i64 0, .int .i64 0, .int .i64 0, .int .i64 0, .int .i64 0, .int .i64 0, .int .i64 0], [], none⟩,
          ⟨none, .store 7, [.tmp 12, .tmp 47], none⟩,
          ⟨(some 13), .mov, [.tmp 48], none⟩] false)
        (.seq (.seq (.ops [
          ⟨(some 49), .mov, [.tmp 13], none⟩,
          ⟨(some 50), .mov, [.tmp 49], none⟩,
          ⟨(some 51), .load 7 true, [.tmp 12], (some (50, true))⟩,
          ⟨(some 52), .load 7 true, [.tmp 11], (some (50, true))⟩,
          ⟨(some 53), .eqa [false, false, false, false, false, false, false] true, [.tmp 51, .tmp 52], (some (50, true))⟩,
          ⟨(some 54), .pick, [.tmp 50, .tmp 53, .const (.bool false)], none⟩] false)
        (.cond (.tmp 54)
          (.seq (.ops [
            ⟨(some 4), .mov, [.const (.slice none 0 0)], none⟩,
            ⟨(some 5), .mov, [.const (.int .i64 15)], none⟩] false)
          .ret)
          .skip))
        (.seq (.ops [
          ⟨(some 55), .mov, [.tmp 13], none⟩,
          ⟨(some 56), .not, [.tmp 55], none⟩] false)
        (.cond (.tmp 56)
          (.ops [
            ⟨(some 57), .mov, [.tmp 9], none⟩,
            ⟨(some 58), .load 7 true, [.tmp 11], none⟩,
            ⟨(some 59), .buildSl 28 7, [.tmp 58], none⟩,
            ⟨(some 60), .append 28 7 56, [.tmp 57, .tmp 59], none⟩,
            ⟨(some 9), .mov, [.tmp 60], none⟩] false)
          .skip))))))
      (.ops [
        ⟨(some 61), .bin .add .i64 false, [.tmp 35, .const (.int .i64 1)], none⟩,
        ⟨(some 35), .mov, [.tmp 61], none⟩] false)))))))
  (.seq (.seq (.ops [
    ⟨(some 62), .mov, [.tmp 9], none⟩,
    ⟨(some 63), .len, [.tmp 62], none⟩,
    ⟨(some 64), .cmp .gtr, [.tmp 63, .const (.int .i64 2000)], none⟩] false)
  (.cond (.tmp 64)
    (.seq (.ops [
      ⟨(some 4), .mov, [.const (.slice none 0 0)], none⟩,
      ⟨(some 5), .mov, [.const (.int .i64 9)], none⟩] false)
    .ret)
    .skip))
  (.seq (.ops [
    ⟨(some 65), .mov, [.tmp 9], none⟩,
    ⟨(some 66), .callm 33, [.tmp 65, .func 29], none⟩] false)
  (.seq (.ops [
    ⟨(some 67), .mov, [.tmp 9], none⟩,
    ⟨(some 4), .mov, [.tmp 67], none⟩,
    ⟨(some 5), .mov, [.const (.int .i64 0)], none⟩] false)
  .ret))))))))⟩
theorem mergeLow : lowF Try.prog { gives := [32], muts := [66] } Try.f18 = some mergeIr := by kernel_rfl
def mergeS : Spec := spec (List Ride × List Ride) (fun p => [L 7 (p.1.map encR), L 7 (p.2.map encR)]) (fun p => (p.1.length ≤ 3000 ∧ Sorted p.1) ∧ p.2.length ≤ 3000 ∧ Sorted p.2) (fun p => mergeR (mergeF p.1 p.2))
theorem mergeV : fnV Try.prog mergeIr mergeS := by
  intro ⟨(a : List Ride), (b : List Ride)⟩ hx
  obtain ⟨⟨la, sa⟩, lb, sb⟩ : (a.length ≤ 3000 ∧ Sorted a) ∧ b.length ≤ 3000 ∧ Sorted b := hx
  have hla : (a.map encR).length = a.length := List.length_map ..
  have hlb : (b.map encR).length = b.length := List.length_map ..
  show vc _ _ _ ⟨argEnv 0 [L 7 (a.map encR), L 7 (b.map encR)], [], 0⟩
  conv => whnf
  refine ⟨Nat, fun k => ⟨[(0, L 7 (a.map encR)), (1, L 7 (b.map encR)), (6, .mp 0), (17, L 7 (a.map encR)), (18, I (a.map encR).length), (19, I k)], [(0, .map 2 true (kvOf (a.take k)))], 1⟩, fun k => k ≤ a.length, fun k => a.length - k, ⟨0, Nat.zero_le _, [], ⟨⟨rfl, rfl⟩, ⟨⟨rfl, rfl⟩, ⟨⟨rfl, rfl⟩, ⟨⟨rfl, rfl⟩, ⟨⟨rfl, rfl⟩, ⟨⟨rfl, rfl⟩, trivial⟩⟩⟩⟩⟩⟩, ⟨⟨rfl, rfl, rfl⟩, trivial⟩, rfl, rfl⟩, fun k hk => ?_⟩
  conv => whnf
  refine ⟨fun h => ?_, fun h => ?_⟩
  · conv => whnf
    refine ⟨by omega, fun r hr => ?_⟩
    have hx : a[k]? = some a[k] := List.getElem?_eq_getElem (by omega)
    generalize a[k] = x at hx
    obtain rfl := get_row hr hx
    conv => whnf
    refine ⟨⟨by omega, by omega⟩, ?_⟩
    conv => whnf
    refine ⟨k + 1, ⟨by dsimp only; omega, by dsimp only; omega⟩, [], ⟨⟨rfl, rfl⟩, ⟨⟨rfl, rfl⟩, ⟨⟨rfl, rfl⟩, ⟨⟨rfl, rfl⟩, ⟨⟨rfl, rfl⟩, ⟨⟨rfl, rfl⟩, trivial⟩⟩⟩⟩⟩⟩, ⟨⟨kv_step sa hx, rfl, rfl⟩, trivial⟩, rfl, rfl⟩
  have htk : a.take k = a := List.take_of_length_le (by omega)
  conv => whnf
  refine ⟨rfl, _, clone_h, a, (by show a.length ≤ 1000000; omega), leVs_of_eq rfl, trivial, ?_⟩
  conv => whnf
  refine ⟨Nat, fun k => ⟨[(6, .mp 0), (9, .osl 1), (33, L 7 (b.map encR)), (34, I (b.map encR).length), (35, I k)], [(0, .map 2 true (kvOf a)), (1, .row 28 7 ((a ++ (b.take k).filter (fresh a)).map encR))], 2⟩, fun k => k ≤ b.length ∧ agree a (b.take k), fun k => b.length - k, ⟨0, ⟨Nat.zero_le _, fun r hr => by simp at hr⟩, [], ⟨⟨rfl, rfl⟩, ⟨⟨rfl, rfl⟩, ⟨⟨rfl, rfl⟩, ⟨⟨rfl, rfl⟩, ⟨⟨rfl, rfl⟩, trivial⟩⟩⟩⟩⟩, ⟨⟨congrArg (fun l => some (Ob.map 2 true (kvOf l))) htk, rfl, rfl⟩, ⟨⟨row_start a b, rfl, rfl⟩, trivial⟩⟩, rfl, rfl⟩, fun k hk => ?_⟩
  obtain ⟨hk, hag⟩ := hk
  have hfl := fresh_len (a := a) (b := b) k
  have hlo : ((a ++ (b.take k).filter (fresh a)).map encR).length = (a ++ (b.take k).filter (fresh a)).length := List.length_map ..
  conv => whnf
  refine ⟨fun h => ?_, fun h => ?_⟩
  · conv => whnf
    refine ⟨by omega, fun r hr => ?_⟩
    have hx : b[k]? = some b[k] := List.getElem?_eq_getElem (by omega)
    generalize b[k] = x at hx
    obtain rfl := get_row hr hx
    conv => whnf
    refine ⟨fun l hl => ?_, fun hl => ?_⟩
    · obtain ⟨s, hs, hks, rfl⟩ := kv_find sa hl
      conv => whnf
      refine ⟨fun _ => ?_, fun hf => by cases hf⟩
      conv => whnf
      refine ⟨fun hc => ?_, fun hc => ?_⟩
      · conv => whnf
        refine ⟨[], rfl, trivial, ?_⟩
        show leR _ (mergeR (mergeF a b))
        rw [mergeF_conflict sa sb (conflict_of hx hs hks (ride_ne hc))]
        exact leVs_of_eq rfl
      · have e : s = x := ride_nn hc
        subst e
        have hff : fresh a s = false := by
          cases hf : fresh a s
          · rfl
          · exact absurd rfl (fresh_iff.1 hf s hs)
        conv => whnf
        refine ⟨⟨by omega, by omega⟩, ?_⟩
        conv => whnf
        refine ⟨k + 1, ⟨⟨by omega, agree_snoc hx hag fun z hz hk => sorted_inj sa hz hs hk⟩, by dsimp only; omega⟩, [], ⟨⟨rfl, rfl⟩, ⟨⟨rfl, rfl⟩, ⟨⟨rfl, rfl⟩, ⟨⟨rfl, rfl⟩, ⟨⟨rfl, rfl⟩, trivial⟩⟩⟩⟩⟩, ⟨⟨rfl, rfl, rfl⟩, ⟨⟨congrArg (fun l : List Ride => some (Ob.row 28 7 (l.map encR))) (filter_miss hx hff).symm, rfl, rfl⟩, trivial⟩⟩, rfl, rfl⟩
    · have hff := kv_none hl
      conv => whnf
      refine ⟨(fun hf => by cases hf), fun _ => ?_⟩
      conv => whnf
      refine ⟨⟨by rw [hlo]; simp only [List.length_cons, List.length_nil]; omega, by rw [hlo]; simp only [List.length_cons, List.length_nil]; omega⟩, ?_⟩
      conv => whnf
      refine ⟨⟨by omega, by omega⟩, ?_⟩
      conv => whnf
      refine ⟨k + 1, ⟨⟨by omega, agree_snoc hx hag fun z hz hk => absurd hk (fresh_iff.1 hff z hz)⟩, by dsimp only; omega⟩, [(1, 4)], ⟨⟨rfl, rfl⟩, ⟨⟨rfl, rfl⟩, ⟨⟨rfl, rfl⟩, ⟨⟨rfl, rfl⟩, ⟨⟨rfl, rfl⟩, trivial⟩⟩⟩⟩⟩, ⟨⟨rfl, rfl, rfl⟩, ⟨⟨?_, rfl, rfl⟩, trivial⟩⟩, rfl, rfl⟩
      rw [filter_hit hx hff]
      exact snoc_row _ _
  have hbk : b.take k = b := List.take_of_length_le (by omega)
  rw [hbk] at hag hlo hfl
  conv => whnf
  refine ⟨fun hc => ?_, fun hc => ?_⟩
  · conv => whnf
    refine ⟨[], rfl, trivial, ?_⟩
    show leR _ (mergeR (mergeF a b))
    obtain ⟨ys, hp, hs⟩ := exists_sorted (a ++ b.filter (fresh a))
    have hc' : (2000 : Int) < ((a ++ (b.take k).filter (fresh a)).map encR).length := hc
    rw [hbk, hlo] at hc'
    rw [mergeF_merge sa sb (isMerge_of sa sb hag hp hs), if_pos (by rw [hp.length_eq]; omega)]
    exact leVs_of_eq rfl
  · conv => whnf
    refine ⟨_, sortRide_h, a ++ (b.take k).filter (fresh a), ⟨fun _ _ => trivial, by rw [hbk]; omega⟩, ⟨rfl, rfl⟩, rfl, leVs_of_eq rfl, ?_⟩
    rintro _ ⟨ys, rfl, hp, hpw⟩
    conv => whnf
    refine ⟨[], rfl, trivial, ?_⟩
    show leR _ (mergeR (mergeF a b))
    have hc' : ¬ (2000 : Int) < ((a ++ (b.take k).filter (fresh a)).map encR).length := hc
    rw [hbk, hlo] at hc'
    rw [hbk] at hp
    rw [mergeF_merge sa sb (isMerge_of sa sb hag hp (hpw.imp fun h hb => h ((cmpR_lt _ _).2 hb))), if_neg (by rw [hp.length_eq]; omega)]
    exact leVs_of_eq rfl
theorem merge_h : Holds Try.prog 18 mergeS := holds_of mix Try.func18 mergeLow (fun _ => rfl) mergeV

end Go.Proofs.Ytfghmpfiemmbgaa
