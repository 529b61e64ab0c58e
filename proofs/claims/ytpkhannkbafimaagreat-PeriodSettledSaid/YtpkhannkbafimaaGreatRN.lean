/- Periods: each ride is counted once, closed periods are kept. -/
import Derived.Test.YtpkhannkbafimaaGreatRM
namespace Go.Proofs.YtpkhannkbafimaaGreat
open Go.RowKit
theorem count_step {l : List Ride} {k : Nat} {x : Ride} (r : Ride) (hx : l[k]? = some x) : (l.take (k + 1)).count r = (l.take k).count r + if x = r then 1 else 0 := by
  rw [take_snoc l k x hx, List.count_append, List.count_singleton]
  by_cases e : x = r
  · rw [if_pos e, if_pos (by rw [e]; exact beq_self_eq_true r)]
  · rw [if_neg e, if_neg (by rw [beq_iff_eq]; exact e)]
theorem one_slice {α : Type} {f : α → List CV} {l : List α} {k : Nat} {x : α} (hx : l[k]? = some x) : List.drop (k : Int).toNat (List.take ((k : Int) + 1).toNat (l.map f)) = [x].map f := by
  rw [show ((k : Int) + 1).toNat = k + 1 by omega, Int.toNat_natCast, ← List.map_take, take_snoc l k x hx, List.map_append, List.drop_left' (by rw [List.length_map, List.length_take]; have := (List.getElem?_eq_some_iff.1 hx).1; omega)]
theorem le_two {α : Type} {f : α → List CV} {n : Nat} {l m : List α} {k : Nat} {x : α} (hx : l[k]? = some x) (hy : m[k]? = some x) : leVs [L n (List.drop (k : Int).toNat (List.take ((k : Int) + 1).toNat (l.map f))), L n (List.drop (k : Int).toNat (List.take ((k : Int) + 1).toNat (m.map f)))] [L n ([x].map f), L n ([x].map f)] := leVs_of_eq (by rw [one_slice hx, one_slice hy])
theorem filtR_nodup {l : List Cnt} (h : (l.map keyC).Nodup) (n : Int) : (filtR l n).Nodup := by
  unfold filtR
  rw [List.Nodup, List.pairwise_map] at h ⊢
  exact (h.filter _).imp fun hab e => hab (by show [_, _] = [_, _]; rw [e])
theorem ridesOf_nodup {b : Bk} (h : (b.rs.map keyC).Nodup) (n : Int) : (ridesOf b n).Nodup := (ridesOf_perm b n).nodup_iff.2 (filtR_nodup h n)
theorem mem_filtR {l : List Cnt} {n : Int} {r : Ride} : r ∈ filtR l n ↔ ∃ c, c ∈ l ∧ c.per = n ∧ c.r = r := by
  unfold filtR
  rw [List.mem_map]
  refine ⟨fun ⟨c, h, e⟩ => ⟨c, (List.mem_filter.1 h).1, of_decide_eq_true (List.mem_filter.1 h).2, e⟩, fun ⟨c, h, hp, e⟩ => ⟨c, List.mem_filter.2 ⟨h, decide_eq_true hp⟩, e⟩⟩
theorem cnt_inj {l : List Cnt} (h : (l.map keyC).Nodup) {c d : Cnt} (hc : c ∈ l) (hd : d ∈ l) (e : c.r = d.r) : c = d := by
  obtain ⟨i, hi⟩ := List.mem_iff_getElem?.1 hc
  obtain ⟨j, hj⟩ := List.mem_iff_getElem?.1 hd
  have kk : keyC c = keyC d := by show [_, _] = [_, _]; rw [e]
  rcases Nat.lt_trichotomy i j with hij | hij | hij
  · exact absurd kk.symm (key_apart h hj c (List.mem_of_getElem? (i := i) (by rw [List.getElem?_take_of_lt hij]; exact hi)))
  · subst hij; rw [hi] at hj; cases hj; rfl
  · exact absurd kk (key_apart h hi d (List.mem_of_getElem? (i := j) (by rw [List.getElem?_take_of_lt hij]; exact hj)))
theorem count_at {b : Bk} (h : RB b) {c : Cnt} (hc : c ∈ b.rs) (n : Int) : (ridesOf b n).count c.r = if n = c.per then 1 else 0 := by
  by_cases e : n = c.per
  · rw [if_pos e]
    exact (ridesOf_nodup h.keys n).count.trans (if_pos ((ridesOf_perm b n).mem_iff.2 (mem_filtR.2 ⟨c, hc, e.symm, rfl⟩)))
  · rw [if_neg e]
    refine List.count_eq_zero.2 fun hm => ?_
    obtain ⟨d, hd, hp, hr⟩ := mem_filtR.1 ((ridesOf_perm b n).mem_iff.1 hm)
    rw [cnt_inj h.keys hd hc hr] at hp
    exact e hp.symm
/-- Closed periods have the same shares and rides later, and all rides are there. -/
structure KeptP (b c : Bk) : Prop where
  len : b.ps.length ≤ c.ps.length
  per : ∀ (k : Nat) (x : Per), b.ps[k]? = some x → x.cl = true → c.ps[k]? = some x
  rid : ∀ (k : Nat) (x : Per), b.ps[k]? = some x → x.cl = true → ridesOf b ((k : Int) + 1) = ridesOf c ((k : Int) + 1)
  sub : ∀ x ∈ b.rs, x ∈ c.rs
theorem rides_rs {b c : Bk} (h : c.rs = b.rs) (n : Int) : ridesOf b n = ridesOf c n := by unfold ridesOf; rw [h]
theorem kept_self (b : Bk) : KeptP b b := ⟨Nat.le_refl _, fun _ _ h _ => h, fun _ _ _ _ => rfl, fun _ h => h⟩
theorem kept_begin {b : Bk} {to : Int} (he : beginE b to = 0) : KeptP b (beginB b to) := by
  unfold beginB
  rw [if_pos he]
  refine ⟨?_, fun k x hx _ => ?_, fun _ _ _ _ => rides_rs rfl _, fun _ h => h⟩
  · show _ ≤ (b.ps ++ [newP b to]).length
    rw [List.length_append]; omega
  · show (b.ps ++ [newP b to])[k]? = some x
    rw [List.getElem?_append_left (List.getElem?_eq_some_iff.1 hx).1]; exact hx
theorem kept_enter {b : Bk} {r : Ride} (he : entE b r = 0) : KeptP b (entB b r) := by
  obtain ⟨_, ⟨i, c, _, _, _, hb⟩ | ⟨i, y, hi, hj, hy, hp, h2, hb⟩⟩ := ent_cases he
  · rw [hb]; exact kept_self b
  · rw [hb]
    refine ⟨Nat.le_refl _, fun _ _ h _ => h, fun k x hx hcl => ?_, fun x hx => List.mem_append_left _ hx⟩
    have hne : (i : Int) + 1 ≠ (k : Int) + 1 := fun e => by
      have : i = k := by omega
      subst this
      rw [hy] at hx; cases hx
      rw [(opR_spec hp).1] at hcl; cases hcl
    unfold ridesOf
    have : filtR (b.rs ++ [⟨(i : Int) + 1, r⟩]) ((k : Int) + 1) = filtR b.rs ((k : Int) + 1) := by
      unfold filtR
      rw [List.filter_append, List.filter_cons_of_neg (by rw [decide_eq_true_iff]; exact hne), List.filter_nil, List.append_nil]
    rw [this]
theorem kept_close {b : Bk} {n : Int} {due rec : List Share} {x : Per} (hc : ClsP b n due rec x) : KeptP b (clsB b n due rec) := by
  rw [hc.res]
  obtain ⟨x', hx', hop, _⟩ := fidx_some hc.first
  refine ⟨by show _ ≤ (b.ps.set _ _).length; rw [List.length_set]; exact Nat.le_refl _, fun k y hy hcl => ?_, fun _ _ _ _ => rides_rs rfl _, fun _ h => h⟩
  show (b.ps.set _ _)[k]? = some y
  rw [List.getElem?_set_ne (fun e => ?_)]
  · exact hy
  · rw [e, hy] at hx'; cases hx'
    unfold opB at hop
    rw [hcl] at hop; cases hop
theorem kept_do {b : Bk} (h : RB b) {x : Opp} (hk : doK b x = true) : KeptP b (doB b x) := by
  unfold doK at hk
  unfold doB
  by_cases k0 : x.kind = 0
  · rw [if_pos k0] at hk ⊢
    have he := of_decide_eq_true hk
    rw [if_pos he]; exact kept_begin he
  rw [if_neg k0] at hk ⊢
  by_cases k1 : x.kind = 1
  · rw [if_pos k1] at hk ⊢
    have he := of_decide_eq_true hk
    rw [if_pos he]; exact kept_enter he
  rw [if_neg k1] at hk ⊢
  by_cases k2 : x.kind = 2
  · rw [if_pos k2] at hk ⊢
    have he := of_decide_eq_true hk
    rw [if_pos he]
    obtain ⟨y, hy⟩ := cls_cases h he
    exact kept_close hy
  rw [if_neg k2] at hk; cases hk
theorem do_in {b : Bk} {x : Opp} (hk : doK b x = true) (k1 : x.kind = 1) : ∃ c, c ∈ (doB b x).rs ∧ c.r = x.r := by
  unfold doK at hk
  rw [if_neg (by rw [k1]; decide), if_pos k1] at hk
  have he := of_decide_eq_true hk
  have hd : doB b x = entB b x.r := by unfold doB; rw [if_neg (by rw [k1]; decide), if_pos k1, if_pos he]
  rw [hd]
  obtain ⟨_, ⟨i, c, _, hc, hcr, hb⟩ | ⟨i, y, hi, hj, hy, hp, h2, hb⟩⟩ := ent_cases he
  · rw [hb]; exact ⟨c, List.mem_of_getElem? hc, hcr⟩
  · rw [hb]; exact ⟨⟨(i : Int) + 1, x.r⟩, List.mem_append_right _ (List.mem_singleton.2 rfl), rfl⟩

/-! skiarea/skiarealaw38.times -/
def timesIr : IFn := ⟨22, [.tmp 4],
  (.seq (.ops [
    ⟨(some 3), .box, [.tmp 1], none⟩,
    ⟨(some 4), .mov, [.const (.int .i64 0)], none⟩] false)
  (.seq (.ops [
    ⟨(some 5), .mov, [.const (.int .i64 0)], none⟩] false)
  (.seq (.seq (.ops [
    ⟨(some 6), .mov, [.const (.int .i64 0)], none⟩] false)
  (.block 0
    (.loop
      (.seq (.seq (.ops [
        ⟨(some 7), .mov, [.tmp 6], none⟩,
        ⟨(some 8), .mov, [.tmp 0], none⟩,
        ⟨(some 9), .len, [.tmp 8], none⟩,
        ⟨(some 10), .cmp .lss, [.tmp 7, .tmp 9], none⟩] false)
      (.cond (.tmp 10)
        .skip
        (.exit 0)))
      (.seq (.block 1
        (.seq (.ops [
          ⟨(some 13), .mov, [.tmp 0], none⟩,
          ⟨(some 14), .mov, [.tmp 6], none⟩,
          ⟨(some 15), .idx 7, [.tmp 13, .tmp 14], none⟩,
          ⟨(some 16), .load 7 true, [.tmp 15], none⟩,
          ⟨(some 17), .load 7 true, [.tmp 3], none⟩,
          ⟨(some 18), .eqa [false, false, false, false, false, false, false] false, [.tmp 16, .tmp 17], none⟩] true)
        (.cond (.tmp 18)
          (.ops [
            ⟨(some 19), .mov, [.tmp 5], none⟩,
            ⟨(some 20), .bin .add .i64 false, [.tmp 19, .const (.int .i64 1)], none⟩,
            ⟨(some 5), .mov, [.tmp 20], none⟩] false)
          .skip)))
      (.ops [
        ⟨(some 11), .mov, [.tmp 6], none⟩,
        ⟨(some 12), .bin .add .i64 false, [.tmp 11, .const (.int .i64 1)], none⟩,
        ⟨(some 6), .mov, [.tmp 12], none⟩] false))))))
  (.seq (.ops [
    ⟨(some 21), .mov, [.tmp 5], none⟩,
    ⟨(some 4), .mov, [.tmp 21], none⟩] false)
  .ret))))⟩
theorem timesLow : lowF Tryz.prog {} Tryz.f27 = some timesIr := by kernel_rfl
def timesS : Spec := spec (List Ride × Ride) (fun p => [L 7 (p.1.map encD), aD p.2]) (fun p => p.1.length ≤ 1000000) (fun p => I (p.1.count p.2 : Nat))
theorem timesV : fnV Tryz.prog timesIr timesS := by
  intro ⟨(l : List Ride), (r : Ride)⟩ hx
  replace hx : l.length ≤ 1000000 := hx
  have hl : (l.map encD).length = l.length := List.length_map ..
  show vc _ _ _ _ ⟨argEnv 0 [L 7 (l.map encD), aD r], [], 0⟩
  conv => whnf
  refine ⟨Nat × Int, fun xq => ⟨[(0, L 7 (l.map encD)), (3, .bp 0 0), (5, I xq.2), (6, I xq.1)], [(0, .box ((encD r).map .c))], 1⟩, fun xq => xq.1 ≤ l.length ∧ xq.2 = ((l.take xq.1).count r : Nat), fun xq => l.length - xq.1, ⟨(0, 0), ?_, [], ⟨⟨rfl, rfl⟩, ⟨⟨rfl, rfl⟩, ⟨⟨rfl, rfl⟩, ⟨⟨rfl, rfl⟩, trivial⟩⟩⟩⟩, ⟨⟨rfl, rfl, rfl⟩, trivial⟩, rfl, rfl, rfl⟩, ?_⟩
  · (try dsimp only); exact ⟨Nat.zero_le _, rfl⟩
  rintro ⟨k, n⟩ hk
  obtain ⟨hk, hn⟩ : k ≤ l.length ∧ n = ((l.take k).count r : Nat) := hk
  (try dsimp only)
  by_cases hkl : k < l.length
  · obtain ⟨x, hx⟩ := getElem_some hkl
    have hcs := count_step r hx
    have hcl : (l.take k).count r ≤ k := Nat.le_trans List.count_le_length (by rw [List.length_take]; omega)
    by_cases he : x.gate = r.gate ∧ x.seq = r.seq ∧ x.serial = r.serial ∧ x.counter = r.counter ∧ x.product = r.product ∧ x.lift = r.lift ∧ x.time = r.time ∧ True
    · rw [if_pos (ride_ext he)] at hcs
      repeat' ((conv => whnf); first | (refine ⟨fun h => ?_, fun h => ?_⟩ <;> try (exfalso; first | omega | exact absurd h (by decide) | exact h rfl | contradiction | exact absurd (show true = false from h) (by decide) | exact absurd (show false = true from h) (by decide))) | (refine ⟨by omega, fun r hrr => ?_⟩; first | ((have hre : r = encD x := by (first | exact get_row hrr hx | fail)); subst hre)) | (refine ⟨(k + 1, _), ⟨?_, by (try dsimp only); omega⟩, [], ⟨⟨rfl, rfl⟩, ⟨⟨rfl, rfl⟩, ⟨⟨rfl, rfl⟩, ⟨⟨rfl, rfl⟩, trivial⟩⟩⟩⟩, ⟨⟨rfl, rfl, rfl⟩, trivial⟩, rfl, rfl, rfl⟩; (try dsimp only); exact ⟨by omega, by rw [hcs]; omega⟩) | refine ⟨⟨by omega, by omega⟩, ?_⟩ | fail)
    · rw [if_neg (ride_ne he)] at hcs
      repeat' ((conv => whnf); first | (refine ⟨fun h => ?_, fun h => ?_⟩ <;> try (exfalso; first | omega | exact absurd h (by decide) | exact h rfl | contradiction | exact absurd (show true = false from h) (by decide) | exact absurd (show false = true from h) (by decide))) | (refine ⟨by omega, fun r hrr => ?_⟩; first | ((have hre : r = encD x := by (first | exact get_row hrr hx | fail)); subst hre)) | (refine ⟨(k + 1, _), ⟨?_, by (try dsimp only); omega⟩, [], ⟨⟨rfl, rfl⟩, ⟨⟨rfl, rfl⟩, ⟨⟨rfl, rfl⟩, ⟨⟨rfl, rfl⟩, trivial⟩⟩⟩⟩, ⟨⟨rfl, rfl, rfl⟩, trivial⟩, rfl, rfl, rfl⟩; (try dsimp only); exact ⟨by omega, by rw [hcs]; omega⟩) | refine ⟨⟨by omega, by omega⟩, ?_⟩ | fail)
  · have hkn : k = l.length := by omega
    subst hkn
    repeat' ((conv => whnf); first | (refine ⟨fun h => ?_, fun h => ?_⟩ <;> try (exfalso; first | omega | exact absurd h (by decide) | exact h rfl | exact absurd (show true = false from h) (by decide) | exact absurd (show false = true from h) (by decide))) | fail | fail)
    all_goals (refine ⟨[], rfl, trivial, congrArg (CV.int .i64) ?_⟩; exact (show (l.count r : Int) = _ by rw [hn, List.take_length]).symm)
theorem times_h : Holds Tryz.prog 27 timesS := holds_of mix Tryz.func27 timesLow (fun _ => rfl) timesV

/-! skiarea/skiarealaw38.kept -/
def keptIr : IFn := ⟨77, [.tmp 4],
  (.seq (.ops [
    ⟨(some 2), .box, [.tmp 0], none⟩,
    ⟨(some 3), .box, [.tmp 1], none⟩,
    ⟨(some 4), .mov, [.const (.bool false)], none⟩] false)
  (.seq (.seq (.ops [
    ⟨(some 7), .faddr 0, [.tmp 3], none⟩,
    ⟨(some 8), .load 1 false, [.tmp 7], none⟩,
    ⟨(some 9), .len, [.tmp 8], none⟩,
    ⟨(some 10), .faddr 0, [.tmp 2], none⟩,
    ⟨(some 11), .load 1 false, [.tmp 10], none⟩,
    ⟨(some 12), .len, [.tmp 11], none⟩,
    ⟨(some 13), .cmp .lss, [.tmp 9, .tmp 12], none⟩] false)
  (.cond (.tmp 13)
    (.seq (.ops [
      ⟨(some 4), .mov, [.const (.bool false)], none⟩] false)
    .ret)
    .skip))
  (.seq (.seq (.ops [
    ⟨(some 5), .mov, [.const (.int .i64 0)], none⟩] false)
  (.block 0
    (.loop
      (.seq (.seq (.ops [
        ⟨(some 14), .mov, [.tmp 5], none⟩,
        ⟨(some 15), .faddr 0, [.tmp 2], none⟩,
        ⟨(some 16), .load 1 false, [.tmp 15], none⟩,
        ⟨(some 17), .len, [.tmp 16], none⟩,
        ⟨(some 18), .cmp .lss, [.tmp 14, .tmp 17], none⟩] false)
      (.cond (.tmp 18)
        .skip
        (.exit 0)))
      (.seq (.block 1
        (.seq (.seq (.ops [
          ⟨(some 21), .faddr 0, [.tmp 2], none⟩,
          ⟨(some 22), .load 1 false, [.tmp 21], none⟩,
          ⟨(some 23), .mov, [.tmp 5], none⟩,
          ⟨(some 24), .idx 5, [.tmp 22, .tmp 23], none⟩,
          ⟨(some 25), .faddr 3, [.tmp 24], none⟩,
          ⟨(some 26), .load 1 false, [.tmp 25], none⟩,
          ⟨(some 27), .not, [.tmp 26], none⟩] false)
        (.cond (.tmp 27)
          (.exit 1)
          .skip))
        (.seq (.ops [
          ⟨(some 28), .faddr 0, [.tmp 2], none⟩,
          ⟨(some 29), .load 1 false, [.tmp 28], none⟩,
          ⟨(some 30), .mov, [.tmp 5], none⟩,
          ⟨(some 31), .mov, [.tmp 5], none⟩,
          ⟨(some 32), .bin .add .i64 false, [.tmp 31, .const (.int .i64 1)], none⟩,
          ⟨(some 33), .slice 5 true true, [.tmp 29, .tmp 30, .tmp 32], none⟩,
          ⟨(some 34), .faddr 0, [.tmp 3], none⟩,
          ⟨(some 35), .load 1 false, [.tmp 34], none⟩,
          ⟨(some 36), .mov, [.tmp 5], none⟩,
          ⟨(some 37), .mov, [.tmp 5], none⟩,
          ⟨(some 38), .bin .add .i64 false, [.tmp 37, .const (.int .i64 1)], none⟩,
          ⟨(some 39), .slice 5 true true, [.tmp 35, .tmp 36, .tmp 38], none⟩,
          ⟨(some 40), .call 35, [.tmp 33, .tmp 39], none⟩,
          ⟨(some 41), .not, [.tmp 40], none⟩,
          ⟨(some 42), .mov, [.tmp 41], none⟩,
          ⟨(some 43), .load 3 true, [.tmp 2], (some (42, false))⟩,
          ⟨(some 44), .mov, [.tmp 5], (some (42, false))⟩,
          ⟨(some 45), .bin .add .i64 false, [.tmp 44, .const (.int .i64 1)], (some (42, false))⟩,
          ⟨(some 46), .call 23, [.tmp 43, .tmp 45], (some (42, false))⟩,
          ⟨(some 47), .load 3 true, [.tmp 3], (some (42, false))⟩,
          ⟨(some 48), .mov, [.tmp 5], (some (42, false))⟩,
          ⟨(some 49), .bin .add .i64 false, [.tmp 48, .const (.int .i64 1)], (some (42, false))⟩,
          ⟨(some 50), .call 23, [.tmp 47, .tmp 49], (some (42, false))⟩,
          ⟨(some 51), .call 22, [.tmp 46, .tmp 50], (some (42, false))⟩,
          ⟨(some 52), .not, [.tmp 51], (some (42, false))⟩,
          ⟨(some 53), .pick, [.tmp 42, .const (.bool true), .tmp 52], none⟩] true)
        (.cond (.tmp 53)
          (.seq (.ops [
            ⟨(some 4), .mov, [.const (.bool false)], none⟩] false)
          .ret)
          .skip))))
      (.ops [
        ⟨(some 19), .mov, [.tmp 5], none⟩,
        ⟨(some 20), .bin .add .i64 false, [.tmp 19, .const (.int .i64 1)], none⟩,
        ⟨(some 5), .mov, [.tmp 20], none⟩] false))))))
  (.seq (.seq (.ops [
    ⟨(some 6), .mov, [.const (.int .i64 0)], none⟩] false)
  (.block 2
    (.loop
      (.seq (.seq (.ops [
        ⟨(some 54), .mov, [.tmp 6], none⟩,
        ⟨(some 55), .faddr 2, [.tmp 2], none⟩,
        ⟨(some 56), .load 1 false, [.tmp 55], none⟩,
        ⟨(some 57), .len, [.tmp 56], none⟩,
        ⟨(some 58), .cmp .lss, [.tmp 54, .tmp 57], none⟩] false)
      (.cond (.tmp 58)
        .skip
        (.exit 2)))
      (.seq (.block 3
        (.seq (.ops [
          ⟨(some 61), .load 3 true, [.tmp 3], none⟩,
          ⟨(some 62), .faddr 2, [.tmp 2], none⟩,
          ⟨(some 63), .load 1 false, [.tmp 62], none⟩,
          ⟨(some 64), .mov, [.tmp 6], none⟩,
          ⟨(some 65), .idx 8, [.tmp 63, .tmp 64], none⟩,
          ⟨(some 66), .faddr 0, [.tmp 65], none⟩,
          ⟨(some 67), .load 1 false, [.tmp 66], none⟩,
          ⟨(some 68), .call 23, [.tmp 61, .tmp 67], none⟩,
          ⟨(some 69), .faddr 2, [.tmp 2], none⟩,
          ⟨(some 70), .load 1 false, [.tmp 69], none⟩,
          ⟨(some 71), .mov, [.tmp 6], none⟩,
          ⟨(some 72), .idx 8, [.tmp 70, .tmp 71], none⟩,
          ⟨(some 73), .faddr 1, [.tmp 72], none⟩,
          ⟨(some 74), .load 7 true, [.tmp 73], none⟩,
          ⟨(some 75), .call 27, [.tmp 68, .tmp 74], none⟩,
          ⟨(some 76), .cmp .neq, [.tmp 75, .const (.int .i64 1)], none⟩] true)
        (.cond (.tmp 76)
          (.seq (.ops [
            ⟨(some 4), .mov, [.const (.bool false)], none⟩] false)
          .ret)
          .skip)))
      (.ops [
        ⟨(some 59), .mov, [.tmp 6], none⟩,
        ⟨(some 60), .bin .add .i64 false, [.tmp 59, .const (.int .i64 1)], none⟩,
        ⟨(some 6), .mov, [.tmp 60], none⟩] false))))))
  (.seq (.ops [
    ⟨(some 4), .mov, [.const (.bool true)], none⟩] false)
  .ret)))))⟩
theorem keptLow : lowF Tryz.prog {} Tryz.f26 = some keptIr := by kernel_rfl
def keptS : Spec := spec (Bk × Bk) (fun p => [aB p.1, aB p.2]) (fun p => RB p.1 ∧ RB p.2 ∧ KeptP p.1 p.2) (fun _ => B true)
theorem keptV : fnV Tryz.prog keptIr keptS := by
  intro ⟨(b : Bk), (c : Bk)⟩ hp
  obtain ⟨hb, hc, hK⟩ : RB b ∧ RB c ∧ KeptP b c := hp
  have hlp : (b.ps.map encP).length = b.ps.length := List.length_map ..
  have hlo : (b.po.map encO).length = b.po.length := List.length_map ..
  have hlr : (b.rs.map encC).length = b.rs.length := List.length_map ..
  have hcp : (c.ps.map encP).length = c.ps.length := List.length_map ..
  have hco : (c.po.map encO).length = c.po.length := List.length_map ..
  have hcr : (c.rs.map encC).length = c.rs.length := List.length_map ..
  have h64 := hb.p64
  have h20 := hb.r2000
  have h65 := hc.p64
  have hle := hK.len
  show vc _ _ _ _ ⟨argEnv 0 [aB b, aB c], [], 0⟩
  repeat' ((conv => whnf); first | (refine ⟨fun h => ?_, fun h => ?_⟩ <;> try (exfalso; first | omega | exact absurd h (by decide) | exact h rfl | exact absurd (show true = false from h) (by decide) | exact absurd (show false = true from h) (by decide))) | fail | fail)
  refine ⟨Nat, fun xq => ⟨[(2, .bp 0 0), (3, .bp 1 0), (5, I xq)], [(0, bB' b), (1, bB' c)], 2⟩, fun xq => xq ≤ b.ps.length, fun xq => b.ps.length - xq, ⟨0, ?_, [], ⟨⟨rfl, rfl⟩, ⟨⟨rfl, rfl⟩, ⟨⟨rfl, rfl⟩, trivial⟩⟩⟩, ⟨⟨rfl, rfl, rfl⟩, ⟨⟨rfl, rfl, rfl⟩, trivial⟩⟩, rfl, rfl, rfl⟩, ?_⟩
  · (try dsimp only); exact Nat.zero_le _
  rintro k hk
  obtain hk : k ≤ b.ps.length := hk
  (try dsimp only)
  by_cases hkl : k < b.ps.length
  · obtain ⟨x, hx⟩ := getElem_some hkl
    cases hcl : x.cl with
    | false => repeat' ((conv => whnf); first | (refine ⟨fun h => ?_, fun h => ?_⟩ <;> try (exfalso; first | omega | exact absurd h (by decide) | exact h rfl | exact absurd (hcl.symm.trans h) (by decide))) | (refine ⟨by omega, fun r hrr => ?_⟩; first | ((have hre : r = encP x := by (first | exact get_row hrr hx | fail)); subst hre)) | (refine ⟨k + 1, ⟨?_, by (try dsimp only); omega⟩, [], ⟨⟨rfl, rfl⟩, ⟨⟨rfl, rfl⟩, ⟨⟨rfl, rfl⟩, trivial⟩⟩⟩, ⟨⟨rfl, rfl, rfl⟩, ⟨⟨rfl, rfl, rfl⟩, trivial⟩⟩, rfl, rfl, rfl⟩; (try dsimp only); omega) | refine ⟨⟨by omega, by omega⟩, ?_⟩ | fail)
    | true =>
      have hy := hK.per k x hx hcl
      have hr := hK.rid k x hx hcl
      have hxx : [x] = [x] := rfl
      have hrD : ridesOf c ((k : Int) + 1) = ridesOf c ((k : Int) + 1) := rfl
      have hx8 := hb.sh8 x (List.mem_of_getElem? hx)
      repeat' ((conv => whnf); first | (refine ⟨fun h => ?_, fun h => ?_⟩ <;> try (exfalso; first | omega | exact absurd h (by decide) | exact h rfl | exact absurd (hcl.symm.trans h) (by decide))) | (refine ⟨by omega, fun r hrr => ?_⟩; first | ((have hre : r = encP x := by (first | exact get_row hrr hx | fail)); subst hre)) | (refine ⟨_, sameP_h, ([x], [x]), ⟨(by decide : 1 ≤ 9223372036854775807), fun p hp => (by rw [List.mem_singleton.1 hp]; omega)⟩, le_two hx hy, .inl rfl, rfl, ?_⟩; show norm (B (decide ([x] = [x]))) _; rw [decide_eq_true hxx]) | (refine ⟨_, rides_h, (b, (k : Int) + 1), hb.rid, leVs_of_eq rfl, .inl rfl, rfl, ?_⟩; show norm (L 7 ((ridesOf b ((k : Int) + 1)).map encD)) _; rw [hr]) | (refine ⟨_, rides_h, (c, (k : Int) + 1), hc.rid, leVs_of_eq rfl, .inl rfl, rfl, ?_⟩; show norm (L 7 ((ridesOf c ((k : Int) + 1)).map encD)) _) | (refine ⟨_, sameD_h, (ridesOf c ((k : Int) + 1), ridesOf c ((k : Int) + 1)), (by have := ridesOf_len c ((k : Int) + 1); have := hc.r2000; show (ridesOf c ((k : Int) + 1)).length ≤ _; omega), leVs_of_eq rfl, .inl rfl, rfl, ?_⟩; show norm (B (decide (ridesOf c ((k : Int) + 1) = ridesOf c ((k : Int) + 1)))) _; rw [decide_eq_true hrD]) | (refine ⟨k + 1, ⟨?_, by (try dsimp only); omega⟩, [], ⟨⟨rfl, rfl⟩, ⟨⟨rfl, rfl⟩, ⟨⟨rfl, rfl⟩, trivial⟩⟩⟩, ⟨⟨rfl, rfl, rfl⟩, ⟨⟨rfl, rfl, rfl⟩, trivial⟩⟩, rfl, rfl, rfl⟩; (try dsimp only); omega) | (refine ⟨⟨by decide, by omega, by omega⟩, ?_⟩) | refine ⟨⟨by omega, by omega⟩, ?_⟩ | fail)
  · repeat' ((conv => whnf); first | (refine ⟨fun h => ?_, fun h => ?_⟩ <;> try (exfalso; first | omega | exact absurd h (by decide) | exact h rfl | exact absurd (show true = false from h) (by decide) | exact absurd (show false = true from h) (by decide))) | fail | fail)
    refine ⟨Nat, fun xq => ⟨[(2, .bp 0 0), (3, .bp 1 0), (6, I xq)], [(0, bB' b), (1, bB' c)], 2⟩, fun xq => xq ≤ b.rs.length, fun xq => b.rs.length - xq, ⟨0, ?_, [], ⟨⟨rfl, rfl⟩, ⟨⟨rfl, rfl⟩, ⟨⟨rfl, rfl⟩, trivial⟩⟩⟩, ⟨⟨rfl, rfl, rfl⟩, ⟨⟨rfl, rfl, rfl⟩, trivial⟩⟩, rfl, rfl, rfl⟩, ?_⟩
    · (try dsimp only); exact Nat.zero_le _
    rintro j hk
    obtain hj : j ≤ b.rs.length := hk
    (try dsimp only)
    by_cases hjl : j < b.rs.length
    · obtain ⟨x, hx⟩ := getElem_some hjl
      have hone : ((ridesOf c x.per).count x.r : Nat) = (1 : Nat) := (count_at hc (hK.sub x (List.mem_of_getElem? hx)) x.per).trans (if_pos rfl)
      repeat' ((conv => whnf); first | (refine ⟨fun h => ?_, fun h => ?_⟩ <;> try (exfalso; first | omega | exact absurd h (by decide) | exact h rfl | exact absurd (show true = false from h) (by decide) | exact absurd (show false = true from h) (by decide))) | (refine ⟨by omega, fun r hrr => ?_⟩; first | ((have hre : r = encC x := by (first | exact get_row hrr hx | fail)); subst hre)) | (refine ⟨_, rides_h, (c, x.per), hc.rid, leVs_of_eq rfl, .inl rfl, rfl, ?_⟩; show norm (L 7 ((ridesOf c (x.per)).map encD)) _) | (refine ⟨_, times_h, (ridesOf c x.per, x.r), (by have := ridesOf_len c x.per; have := hc.r2000; show (ridesOf c x.per).length ≤ _; omega), leVs_of_eq rfl, .inl rfl, rfl, ?_⟩; show norm (I ((ridesOf c x.per).count x.r : Nat)) _; rw [hone]) | (refine ⟨j + 1, ⟨?_, by (try dsimp only); omega⟩, [], ⟨⟨rfl, rfl⟩, ⟨⟨rfl, rfl⟩, ⟨⟨rfl, rfl⟩, trivial⟩⟩⟩, ⟨⟨rfl, rfl, rfl⟩, ⟨⟨rfl, rfl, rfl⟩, trivial⟩⟩, rfl, rfl, rfl⟩; (try dsimp only); omega) | refine ⟨⟨by omega, by omega⟩, ?_⟩ | fail)
    · repeat' ((conv => whnf); first | (refine ⟨fun h => ?_, fun h => ?_⟩ <;> try (exfalso; first | omega | exact absurd h (by decide) | exact h rfl | exact absurd (show true = false from h) (by decide) | exact absurd (show false = true from h) (by decide))) | exact ⟨[], rfl, trivial, rfl⟩ | fail)
theorem kept_h : Holds Tryz.prog 26 keptS := holds_of mix Tryz.func26 keptLow (fun _ => rfl) keptV

end Go.Proofs.YtpkhannkbafimaaGreat
