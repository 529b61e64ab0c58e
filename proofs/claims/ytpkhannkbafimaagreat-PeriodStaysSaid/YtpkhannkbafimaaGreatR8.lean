/- Periods: Enter. -/
import Derived.Test.YtpkhannkbafimaaGreatR7
namespace Go.Proofs.YtpkhannkbafimaaGreat
open Go.RowKit
/-- Whether a period takes a ride. -/
def opR (r : Ride) (p : Per) : Bool := !p.cl && decide (r.time < p.to)
def idxR (l : List Per) (r : Ride) : Int := match fidx (opR r) l with
  | some i => i
  | none => -1
def entE (b : Bk) (r : Ride) : Int := if ¬ rideP r then 2 else match fidx (keyB r.gate r.seq) b.rs with
  | some i => if (at_ b.rs cnt0 i).r ≠ r then 15 else 0
  | none => match fidx (opR r) b.ps with
    | none => 8
    | some _ => if 2000 ≤ b.rs.length then 9 else 0
def entN (b : Bk) (r : Ride) : Int := if entE b r ≠ 0 then 0 else match fidx (keyB r.gate r.seq) b.rs with
  | some i => (at_ b.rs cnt0 i).per
  | none => match fidx (opR r) b.ps with
    | some i => (i : Int) + 1
    | none => 0
def entB (b : Bk) (r : Ride) : Bk := if entE b r ≠ 0 then bk0 else match fidx (keyB r.gate r.seq) b.rs with
  | some _ => b
  | none => ⟨b.ps, b.po, b.rs ++ [⟨entN b r, r⟩]⟩
def entX (b : Bk) (r : Ride) : SV := .tup [aB (entB b r), I (entN b r), I (entE b r)]
theorem entX_err {b : Bk} {r : Ride} {e : Int} (h : entE b r = e) (he : e ≠ 0) : entX b r = .tup [aB bk0, I 0, I e] := by
  unfold entX entB entN
  rw [h, if_pos he, if_pos he]
theorem entX_old {b : Bk} {r : Ride} {i : Nat} {c : Cnt} (h : entE b r = 0) (hi : fidx (keyB r.gate r.seq) b.rs = some i) (hc : b.rs[i]? = some c) : entX b r = .tup [aB b, I c.per, I 0] := by
  have hn : entN b r = c.per := by unfold entN; rw [h, if_neg (by decide), hi]; exact congrArg Cnt.per (at_of hc)
  have hb : entB b r = b := by unfold entB; rw [h, if_neg (by decide), hi]
  unfold entX
  rw [hn, hb, h]
theorem entX_new {b : Bk} {r : Ride} {i : Nat} (h : entE b r = 0) (hi : fidx (keyB r.gate r.seq) b.rs = none) (hj : fidx (opR r) b.ps = some i) : entX b r = .tup [.agg [L 5 (b.ps.map encP), L 4 (b.po.map encO), L 8 (b.rs.map encC ++ [encC ⟨(i : Int) + 1, r⟩])], I ((i : Int) + 1), I 0] := by
  have hn : entN b r = (i : Int) + 1 := by unfold entN; rw [h, if_neg (by decide), hi, hj]
  have hb : entB b r = ⟨b.ps, b.po, b.rs ++ [⟨(i : Int) + 1, r⟩]⟩ := by unfold entB; rw [h, if_neg (by decide), hi, hn]
  unfold entX
  rw [hn, hb, h]
  show SV.tup [.agg [_, _, L 8 ((b.rs ++ [Cnt.mk ((i : Int) + 1) r]).map encC)], _, _] = _
  rw [List.map_append]
  rfl
/-- What Enter asks of the books. -/
def entP (b : Bk) : Prop := smB b ∧ persE b.ps = 0 ∧ (b.rs.map keyC).Nodup ∧ b.rs.length ≤ 2000
theorem persE_num {l : List Per} (h : persE l = 0) {k : Nat} {x : Per} (hx : l[k]? = some x) : x.num = (k : Int) + 1 := by
  have h1 := fe_all h k (List.getElem?_eq_some_iff.1 hx).1
  unfold perE at h1
  rw [at_of hx] at h1
  by_cases c : x.num = (k : Int) + 1
  · exact c
  · rw [if_pos (.inl c)] at h1; cases h1
theorem key_apart {l : List Cnt} (h : (l.map keyC).Nodup) {k : Nat} {x : Cnt} (hx : l[k]? = some x) : ∀ y ∈ l.take k, keyC x ≠ keyC y := by
  intro y hy e
  obtain ⟨j, hj⟩ := List.mem_iff_getElem?.1 hy
  have hjk : j < k := by
    by_cases c : j < k
    · exact c
    · rw [List.getElem?_take_eq_none (by omega)] at hj; cases hj
  rw [List.getElem?_take_of_lt hjk] at hj
  obtain ⟨hk1, hk2⟩ := List.getElem?_eq_some_iff.1 hx
  obtain ⟨hj1, hj2⟩ := List.getElem?_eq_some_iff.1 hj
  have := List.pairwise_iff_getElem.1 h j k (by rw [List.length_map]; exact hj1) (by rw [List.length_map]; exact hk1) hjk
  rw [List.getElem_map, List.getElem_map, hj2, hk2] at this
  exact this e.symm
theorem find_key {l : List Cnt} {g s : Int} {i : Nat} {c : Cnt} (hi : fidx (keyB g s) l = some i) (hc : l[i]? = some c) : l.find? (fun y => decide ([g, s] = keyC y)) = some c := by
  obtain ⟨x, hx, hp, hn⟩ := fidx_some hi
  rw [hc] at hx; cases hx
  rw [show (fun y => decide ([g, s] = keyC y)) = keyB g s from funext fun y => (keyB_key g s y).symm]
  exact first_at hc hn hp
theorem find_nokey {l : List Cnt} {g s : Int} (hi : fidx (keyB g s) l = none) : l.find? (fun y => decide ([g, s] = keyC y)) = none := by
  rw [show (fun y => decide ([g, s] = keyC y)) = keyB g s from funext fun y => (keyB_key g s y).symm]
  exact first_none (fidx_no hi)
theorem lookG_hit {α : Type} {l : List α} {key : α → List Int} {val : α → List CV} {k : List Int} {x : α} {ag ok : Bool} {z : List CV} {K : SV → Prop} (h : l.find? (fun y => decide (k = key y)) = some x) (hK : gotV ag ok (val x) true K) :
    (∀ v, findKV k (kvG key val l) = some v → gotV ag ok v true K) ∧ (findKV k (kvG key val l) = none → gotV ag ok z false K) := by
  rw [findG, h]
  exact ⟨(fun v hv => by cases hv; exact hK), (fun hn => by cases hn)⟩
theorem lookG_miss {α : Type} {l : List α} {key : α → List Int} {val : α → List CV} {k : List Int} {ag ok : Bool} {z : List CV} {K : SV → Prop} (h : l.find? (fun y => decide (k = key y)) = none) (hK : gotV ag ok z false K) :
    (∀ v, findKV k (kvG key val l) = some v → gotV ag ok v true K) ∧ (findKV k (kvG key val l) = none → gotV ag ok z false K) := by
  rw [findG, h]
  exact ⟨(fun v hv => by cases hv), (fun _ => hK)⟩

/-! skiarea/period.Enter$1 -/
def closIr : IFn := ⟨15, [.tmp 3],
  (.seq (.ops [
    ⟨(some 2), .box, [.tmp 0], none⟩,
    ⟨(some 3), .mov, [.const (.bool false)], none⟩] false)
  (.seq (.ops [
    ⟨(some 4), .faddr 3, [.tmp 2], none⟩,
    ⟨(some 5), .load 1 false, [.tmp 4], none⟩,
    ⟨(some 6), .not, [.tmp 5], none⟩,
    ⟨(some 7), .mov, [.tmp 6], none⟩,
    ⟨(some 8), .faddr 1, [.tmp 2], (some (7, true))⟩,
    ⟨(some 9), .faddr 1, [.tmp 8], (some (7, true))⟩,
    ⟨(some 10), .load 1 false, [.tmp 9], (some (7, true))⟩,
    ⟨(some 11), .faddr 6, [.tmp 1], (some (7, true))⟩,
    ⟨(some 12), .load 1 false, [.tmp 11], (some (7, true))⟩,
    ⟨(some 13), .cmp .gtr, [.tmp 10, .tmp 12], (some (7, true))⟩,
    ⟨(some 14), .pick, [.tmp 7, .tmp 13, .const (.bool false)], none⟩,
    ⟨(some 3), .mov, [.tmp 14], none⟩] false)
  .ret))⟩
theorem closLow : lowF Tryz.prog {} Tryz.f56 = some closIr := by kernel_rfl
def closS : Spec := spec (Per × Ride) (fun p => [aP p.1, .rp (encD p.2)]) (fun _ => True) (fun p => B (opR p.2 p.1))
theorem closV : fnV Tryz.prog closIr closS := by
  intro ⟨(x : Per), (r : Ride)⟩ _
  show vc _ _ _ _ ⟨argEnv 0 [aP x, .rp (encD r)], [], 0⟩
  cases hcl : x.cl with
  | true =>
    repeat' ((conv => whnf); first | (refine ⟨fun h => ?_, fun h => ?_⟩ <;> try (exfalso; first | omega | exact absurd h (by decide) | exact h rfl | exact absurd (hcl.symm.trans h) (by decide))) | fail | fail)
    all_goals (refine ⟨[], rfl, trivial, congrArg CV.bool ?_⟩; exact (show opR r x = false by unfold opR; rw [hcl]; rfl).symm)
  | false =>
    by_cases ht : r.time < x.to
    · repeat' ((conv => whnf); first | (refine ⟨fun h => ?_, fun h => ?_⟩ <;> try (exfalso; first | omega | exact absurd h (by decide) | exact h rfl | exact absurd (hcl.symm.trans h) (by decide))) | fail | fail)
      all_goals (refine ⟨[], rfl, trivial, congrArg CV.bool ?_⟩; exact (show opR r x = true by unfold opR; rw [hcl, decide_eq_true ht]; rfl).symm)
    · repeat' ((conv => whnf); first | (refine ⟨fun h => ?_, fun h => ?_⟩ <;> try (exfalso; first | omega | exact absurd h (by decide) | exact h rfl | exact absurd (hcl.symm.trans h) (by decide))) | fail | fail)
      all_goals (refine ⟨[], rfl, trivial, congrArg CV.bool ?_⟩; exact (show opR r x = false by unfold opR; rw [hcl, decide_eq_false ht]; rfl).symm)
theorem clos_h : Holds Tryz.prog 56 closS := holds_of mix Tryz.func56 closLow (fun _ => rfl) closV

theorem closC : callable Tryz.prog 56 = true := by kernel_rfl

/-! slices.IndexFunc[[]skiarea/api.Period,skiarea/api.Period] -/
def idxfIr : IFn := ⟨19, [.tmp 4],
  (.seq (.ops [
    ⟨(some 4), .mov, [.const (.int .i64 0)], none⟩] false)
  (.seq (.seq (.ops [
    ⟨(some 6), .mov, [.tmp 0], none⟩,
    ⟨(some 7), .len, [.tmp 6], none⟩,
    ⟨(some 8), .mov, [.const (.int .i64 0)], none⟩] false)
  (.block 0
    (.loop
      (.seq (.ops [
        ⟨(some 9), .cmp .lss, [.tmp 8, .tmp 7], none⟩] false)
      (.seq (.cond (.tmp 9)
        .skip
        (.exit 0))
      (.seq (.block 1
        (.seq (.ops [
          ⟨(some 10), .mov, [.tmp 8], none⟩,
          ⟨(some 5), .mov, [.tmp 10], none⟩] false)
        (.seq (.ops [
          ⟨(some 11), .mov, [.tmp 1], none⟩,
          ⟨(some 12), .mov, [.tmp 0], none⟩,
          ⟨(some 13), .mov, [.tmp 5], none⟩,
          ⟨(some 14), .idx 5, [.tmp 12, .tmp 13], none⟩,
          ⟨(some 15), .load 5 true, [.tmp 14], none⟩,
          ⟨(some 16), .callv, [.tmp 11, .tmp 15], none⟩] false)
        (.cond (.tmp 16)
          (.seq (.ops [
            ⟨(some 17), .mov, [.tmp 5], none⟩,
            ⟨(some 4), .mov, [.tmp 17], none⟩] false)
          .ret)
          .skip))))
      (.ops [
        ⟨(some 18), .bin .add .i64 false, [.tmp 8, .const (.int .i64 1)], none⟩,
        ⟨(some 8), .mov, [.tmp 18], none⟩] false)))))))
  (.seq (.ops [
    ⟨(some 4), .mov, [.const (.int .i64 (-1))], none⟩] false)
  .ret)))⟩
theorem idxfLow : lowF Tryz.prog {} Tryz.f55 = some idxfIr := by kernel_rfl
def idxfS : Spec := spec (List Per × Ride) (fun p => [L 5 (p.1.map encP), .fn 56 [.rp (encD p.2)]]) (fun p => p.1.length ≤ 1000000) (fun p => I (idxR p.1 p.2))
theorem idxfV : fnV Tryz.prog idxfIr idxfS := by
  intro ⟨(l : List Per), (r : Ride)⟩ hx
  replace hx : l.length ≤ 1000000 := hx
  have hl : (l.map encP).length = l.length := List.length_map ..
  show vc _ _ _ _ ⟨argEnv 0 [L 5 (l.map encP), .fn 56 [.rp (encD r)]], [], 0⟩
  conv => whnf
  refine ⟨Nat, fun xq => ⟨[(0, L 5 (l.map encP)), (1, .fn 56 [.rp (encD r)]), (7, I (l.map encP).length), (8, I xq)], [], 0⟩, fun xq => xq ≤ l.length ∧ ∀ y ∈ l.take xq, opR r y = false, fun xq => l.length - xq, ⟨0, ?_, [], ⟨⟨rfl, rfl⟩, ⟨⟨rfl, rfl⟩, ⟨⟨rfl, rfl⟩, ⟨⟨rfl, rfl⟩, trivial⟩⟩⟩⟩, trivial, rfl, rfl, rfl⟩, ?_⟩
  · (try dsimp only); exact ⟨Nat.zero_le _, by simp⟩
  rintro k hk
  obtain ⟨hk, hn⟩ : k ≤ l.length ∧ ∀ y ∈ l.take k, opR r y = false := hk
  (try dsimp only)
  by_cases hkl : k < l.length
  · obtain ⟨x, hx⟩ := getElem_some hkl
    cases hp : opR r x with
    | true =>
      have hf := fidx_at hx hn hp
      repeat' ((conv => whnf); first | (refine ⟨fun h => ?_, fun h => ?_⟩ <;> try (exfalso; first | omega | exact absurd h (by decide) | exact h rfl | exact absurd (show true = false from h) (by decide) | exact absurd (show false = true from h) (by decide))) | (refine ⟨by omega, fun r hrr => ?_⟩; first | ((have hre : r = encP x := by (first | exact get_row hrr hx | fail)); subst hre)) | (refine ⟨closC, _, clos_h, (x, r), trivial, leVs_of_eq rfl, .inr rfl, rfl, ?_⟩; show norm (B (opR r x)) _; rw [hp]) | fail | fail)
      all_goals (refine ⟨[], rfl, trivial, congrArg (CV.int .i64) ?_⟩; exact (show idxR l r = _ by unfold idxR; rw [hf]).symm)
    | false =>
      repeat' ((conv => whnf); first | (refine ⟨fun h => ?_, fun h => ?_⟩ <;> try (exfalso; first | omega | exact absurd h (by decide) | exact h rfl | exact absurd (show true = false from h) (by decide) | exact absurd (show false = true from h) (by decide))) | (refine ⟨by omega, fun r hrr => ?_⟩; first | ((have hre : r = encP x := by (first | exact get_row hrr hx | fail)); subst hre)) | (refine ⟨closC, _, clos_h, (x, r), trivial, leVs_of_eq rfl, .inr rfl, rfl, ?_⟩; show norm (B (opR r x)) _; rw [hp]) | (refine ⟨k + 1, ⟨?_, by (try dsimp only); omega⟩, [], ⟨⟨rfl, rfl⟩, ⟨⟨rfl, rfl⟩, ⟨⟨rfl, rfl⟩, ⟨⟨rfl, rfl⟩, trivial⟩⟩⟩⟩, trivial, rfl, rfl, rfl⟩; (try dsimp only); exact ⟨by omega, no_step hx hn hp⟩) | refine ⟨⟨by omega, by omega⟩, ?_⟩ | fail)
  · rw [take_end hkl] at hn
    have hf := fidx_none hn
    repeat' ((conv => whnf); first | (refine ⟨fun h => ?_, fun h => ?_⟩ <;> try (exfalso; first | omega | exact absurd h (by decide) | exact h rfl | exact absurd (show true = false from h) (by decide) | exact absurd (show false = true from h) (by decide))) | fail | fail)
    all_goals (refine ⟨[], rfl, trivial, congrArg (CV.int .i64) ?_⟩; exact (show idxR l r = _ by unfold idxR; rw [hf]).symm)
theorem idxf_h : Holds Tryz.prog 55 idxfS := holds_of mix Tryz.func55 idxfLow (fun _ => rfl) idxfV

/-! skiarea/period.Enter -/
def enterIr : IFn := ⟨80, [.cell 4 3 true, .tmp 5, .tmp 6],
  (.seq (.ops [
    ⟨(some 2), .box, [.tmp 0], none⟩,
    ⟨(some 3), .box, [.tmp 1], none⟩,
    ⟨(some 4), .alloc [.nil, .nil, .nil], [], none⟩,
    ⟨(some 5), .mov, [.const (.int .i64 0)], none⟩,
    ⟨(some 6), .mov, [.const (.int .i64 0)], none⟩] false)
  (.seq (.seq (.ops [
    ⟨(some 15), .load 7 true, [.tmp 3], none⟩,
    ⟨(some 16), .call 53, [.tmp 15], none⟩,
    ⟨(some 17), .not, [.tmp 16], none⟩] false)
  (.cond (.tmp 17)
    (.seq (.ops [
      ⟨(some 18), .build [.nil, .nil, .nil] [], [], none⟩,
      ⟨none, .store 3, [.tmp 4, .tmp 18], none⟩,
      ⟨(some 5), .mov, [.const (.int .i64 0)], none⟩,
      ⟨(some 6), .mov, [.const (.int .i64 2)], none⟩] false)
    .ret)
    .skip))
  (.seq (.ops [
    ⟨(some 19), .mkmap 2 true, [], none⟩,
    ⟨(some 7), .mov, [.tmp 19], none⟩] false)
  (.seq (.seq (.ops [
    ⟨(some 20), .faddr 2, [.tmp 2], none⟩,
    ⟨(some 21), .load 1 false, [.tmp 20], none⟩,
    ⟨(some 22), .len, [.tmp 21], none⟩,
    ⟨(some 23), .mov, [.const (.int .i64 0)], none⟩] false)
  (.block 0
    (.loop
      (.seq (.ops [
        ⟨(some 24), .cmp .lss, [.tmp 23, .tmp 22], none⟩] false)
      (.seq (.cond (.tmp 24)
        .skip
        (.exit 0))
      (.seq (.block 1
        (.seq (.ops [
          ⟨(some 25), .idx 8, [.tmp 21, .tmp 23], none⟩,
          ⟨(some 26), .load 8 true, [.tmp 25], none⟩,
          ⟨(some 9), .alloc [.int .i64 0, .int .i64 0, .int .i64 0, .int .i64 0, .int .i64 0, .int .i64 0, .int .i64 0, .int .i64 0], [], none⟩,
          ⟨none, .store 8, [.tmp 9, .tmp 26], none⟩] false)
        (.ops [
          ⟨(some 27), .mov, [.tmp 7], none⟩,
          ⟨(some 28), .faddr 1, [.tmp 9], none⟩,
          ⟨(some 29), .load 7 true, [.tmp 28], none⟩,
          ⟨(some 30), .call 54, [.tmp 29], none⟩,
          ⟨(some 31), .load 8 true, [.tmp 9], none⟩,
          ⟨none, .mapset 2 true, [.tmp 27, .tmp 30, .tmp 31], none⟩] true)))
      (.ops [
        ⟨(some 32), .bin .add .i64 false, [.tmp 23, .const (.int .i64 1)], none⟩,
        ⟨(some 23), .mov, [.tmp 32], none⟩] false)))))))
  (.seq (.seq (.ops [
    ⟨(some 34), .mov, [.tmp 7], none⟩,
    ⟨(some 35), .load 7 true, [.tmp 3], none⟩,
    ⟨(some 36), .call 54, [.tmp 35], none⟩,
    ⟨(some 37), .lookup [.int .i64 0, .int .i64 0, .int .i64 0, .int .i64 0, .int .i64 0, .int .i64 0, .int .i64 0, .int .i64 0] 2 true true, [.tmp 34, .tmp 36], none⟩,
    ⟨(some 33), .mov, [.tmp 37], none⟩,
    ⟨(some 38), .extract 0, [.tmp 33], none⟩,
    ⟨(some 39), .extract 1, [.tmp 33], none⟩,
    ⟨(some 10), .alloc [.int .i64 0, .int .i64 0, .int .i64 0, .int .i64 0, .int .i64 0, .int .i64 0, .int .i64 0, .int .i64 0], [], none⟩,
    ⟨none, .store 8, [.tmp 10, .tmp 38], none⟩,
    ⟨(some 11), .mov, [.tmp 39], none⟩] false)
  (.seq (.ops [
    ⟨(some 40), .mov, [.tmp 11], none⟩] false)
  (.cond (.tmp 40)
    (.seq (.seq (.ops [
      ⟨(some 41), .faddr 1, [.tmp 10], none⟩,
      ⟨(some 42), .load 7 true, [.tmp 41], none⟩,
      ⟨(some 43), .load 7 true, [.tmp 3], none⟩,
      ⟨(some 44), .eqa [false, false, false, false, false, false, false] true, [.tmp 42, .tmp 43], none⟩] false)
    (.cond (.tmp 44)
      (.seq (.ops [
        ⟨(some 45), .build [.nil, .nil, .nil] [], [], none⟩,
        ⟨none, .store 3, [.tmp 4, .tmp 45], none⟩,
        ⟨(some 5), .mov, [.const (.int .i64 0)], none⟩,
        ⟨(some 6), .mov, [.const (.int .i64 15)], none⟩] false)
      .ret)
      .skip))
    (.seq (.seq (.sealc 10)
    (.ops [
      ⟨(some 46), .load 3 true, [.tmp 2], none⟩,
      ⟨(some 47), .callo 49, [.tmp 46], none⟩,
      ⟨(some 48), .faddrR 0, [.tmp 10], none⟩,
      ⟨(some 49), .loadR 1 false, [.tmp 48], none⟩,
      ⟨none, .store 3, [.tmp 4, .tmp 47], none⟩,
      ⟨(some 5), .mov, [.tmp 49], none⟩,
      ⟨(some 6), .mov, [.const (.int .i64 0)], none⟩] true))
    .ret))
    .skip)))
  (.seq (.ops [
    ⟨(some 50), .faddr 0, [.tmp 2], none⟩,
    ⟨(some 51), .load 1 false, [.tmp 50], none⟩,
    ⟨(some 52), .fn 56, [.tmp 3], none⟩,
    ⟨(some 53), .call 55, [.tmp 51, .tmp 52], none⟩,
    ⟨(some 12), .mov, [.tmp 53], none⟩] false)
  (.seq (.seq (.ops [
    ⟨(some 54), .mov, [.tmp 12], none⟩,
    ⟨(some 55), .cmp .lss, [.tmp 54, .const (.int .i64 0)], none⟩] false)
  (.cond (.tmp 55)
    (.seq (.ops [
      ⟨(some 56), .build [.nil, .nil, .nil] [], [], none⟩,
      ⟨none, .store 3, [.tmp 4, .tmp 56], none⟩,
      ⟨(some 5), .mov, [.const (.int .i64 0)], none⟩,
      ⟨(some 6), .mov, [.const (.int .i64 8)], none⟩] false)
    .ret)
    .skip))
  (.seq (.seq (.ops [
    ⟨(some 57), .faddr 2, [.tmp 2], none⟩,
    ⟨(some 58), .load 1 false, [.tmp 57], none⟩,
    ⟨(some 59), .len, [.tmp 58], none⟩,
    ⟨(some 60), .cmp .geq, [.tmp 59, .const (.int .i64 2000)], none⟩] false)
  (.cond (.tmp 60)
    (.seq (.ops [
      ⟨(some 61), .build [.nil, .nil, .nil] [], [], none⟩,
      ⟨none, .store 3, [.tmp 4, .tmp 61], none⟩,
      ⟨(some 5), .mov, [.const (.int .i64 0)], none⟩,
      ⟨(some 6), .mov, [.const (.int .i64 9)], none⟩] false)
    .ret)
    .skip))
  (.seq (.ops [
    ⟨(some 62), .load 3 true, [.tmp 2], none⟩,
    ⟨(some 63), .callo 49, [.tmp 62], none⟩,
    ⟨(some 13), .alloc [.nil, .nil, .nil], [], none⟩,
    ⟨none, .store 3, [.tmp 13, .tmp 63], none⟩] false)
  (.seq (.ops [
    ⟨(some 64), .faddr 0, [.tmp 2], none⟩,
    ⟨(some 65), .load 1 false, [.tmp 64], none⟩,
    ⟨(some 66), .mov, [.tmp 12], none⟩,
    ⟨(some 67), .idx 5, [.tmp 65, .tmp 66], none⟩,
    ⟨(some 68), .faddr 0, [.tmp 67], none⟩,
    ⟨(some 69), .load 1 false, [.tmp 68], none⟩,
    ⟨(some 14), .mov, [.tmp 69], none⟩] false)
  (.seq (.ops [
    ⟨(some 70), .faddr 2, [.tmp 13], none⟩,
    ⟨(some 71), .load 1 false, [.tmp 70], none⟩,
    ⟨(some 72), .mov, [.tmp 14], none⟩,
    ⟨(some 73), .load 7 true, [.tmp 3], none⟩,
    ⟨(some 74), .build [.int .i64 0, .int .i64 0, .int .i64 0, .int .i64 0, .int .i64 0, .int .i64 0, .int .i64 0, .int .i64 0] [(0, 1), (1, 7)], [.tmp 72, .tmp 73], none⟩,
    ⟨(some 75), .buildSl 80 8, [.tmp 74], none⟩,
    ⟨(some 76), .append 80 8 64, [.tmp 71, .tmp 75], none⟩,
    ⟨(some 77), .faddr 2, [.tmp 13], none⟩,
    ⟨none, .store 1, [.tmp 77, .tmp 76], none⟩] false)
  (.seq (.ops [
    ⟨(some 78), .load 3 true, [.tmp 13], none⟩,
    ⟨(some 79), .mov, [.tmp 14], none⟩,
    ⟨none, .store 3, [.tmp 4, .tmp 78], none⟩,
    ⟨(some 5), .mov, [.tmp 79], none⟩,
    ⟨(some 6), .mov, [.const (.int .i64 0)], none⟩] false)
  .ret))))))))))))⟩
theorem enterLow : lowF Tryz.prog { gives := [47, 63], rps := [48, 49], seals := [(46, 10)] } Tryz.f20 = some enterIr := by kernel_rfl
def enterS : Spec := spec (Bk × Ride) (fun p => [aB p.1, aD p.2]) (fun p => entP p.1) (fun p => entX p.1 p.2)
set_option maxHeartbeats 2000000 in
theorem enterV : fnV Tryz.prog enterIr enterS := by
  intro ⟨(b : Bk), (r : Ride)⟩ hp
  obtain ⟨hb, hP, hK, h2000⟩ : smB b ∧ persE b.ps = 0 ∧ (b.rs.map keyC).Nodup ∧ b.rs.length ≤ 2000 := hp
  obtain ⟨⟨c1, c2, c3⟩, c4⟩ : (b.ps.length ≤ 1000000 ∧ b.po.length ≤ 1000000 ∧ b.rs.length ≤ 1000000) ∧ ∀ p ∈ b.ps, p.sh.length ≤ 1000000 := hb
  have hb : smB b := ⟨⟨c1, c2, c3⟩, c4⟩
  have hlp : (b.ps.map encP).length = b.ps.length := List.length_map ..
  have hlo : (b.po.map encO).length = b.po.length := List.length_map ..
  have hlr : (b.rs.map encC).length = b.rs.length := List.length_map ..
  have hE : entE b r = if ¬ rideP r then 2 else match fidx (keyB r.gate r.seq) b.rs with
    | some i => if (at_ b.rs cnt0 i).r ≠ r then 15 else 0
    | none => match fidx (opR r) b.ps with
      | none => 8
      | some _ => if 2000 ≤ b.rs.length then 9 else 0 := rfl
  show vc _ _ _ _ ⟨argEnv 0 [aB b, aD r], [], 0⟩
  cases d1 : decide (rideP r) with
  | false =>
    rw [if_pos (of_decide_eq_false d1)] at hE
    repeat' ((conv => whnf); first | (refine ⟨fun h => ?_, fun h => ?_⟩ <;> try (exfalso; first | omega | exact absurd h (by decide) | exact h rfl | exact absurd (show true = false from h) (by decide) | exact absurd (show false = true from h) (by decide))) | (refine ⟨_, single_h, r, trivial, leVs_of_eq rfl, .inl rfl, rfl, ?_⟩; show norm (B (decide (rideP r))) _; rw [d1]) | fail | fail)
    all_goals (refine ⟨[], rfl, trivial, ?_⟩; show leR _ (entX b r); rw [entX_err hE (by decide)]; exact ⟨⟨rfl, rfl, rfl, trivial⟩, rfl, rfl, trivial⟩)
  | true =>
  rw [if_neg (Decidable.not_not.2 (of_decide_eq_true d1))] at hE
  repeat' ((conv => whnf); first | (refine ⟨fun h => ?_, fun h => ?_⟩ <;> try (exfalso; first | omega | exact absurd h (by decide) | exact h rfl | exact absurd (show true = false from h) (by decide) | exact absurd (show false = true from h) (by decide))) | (refine ⟨_, single_h, r, trivial, leVs_of_eq rfl, .inl rfl, rfl, ?_⟩; show norm (B (decide (rideP r))) _; rw [d1]) | fail | fail)
  refine ⟨Nat × (List (List Int × List CV)), fun xq => ⟨[(2, .bp 0 0), (3, .bp 1 0), (4, .bp 2 0), (7, .mp 3), (21, L 8 (b.rs.map encC)), (22, I (b.rs.map encC).length), (23, I xq.1)], [(0, bB' b), (1, .box ((encD r).map .c)), (2, nils), (3, .map 2 true xq.2)], 4⟩, fun xq => xq.1 ≤ b.rs.length ∧ xq.2 = kvG keyC encC (b.rs.take xq.1), fun xq => b.rs.length - xq.1, ⟨(0, _), ?_, [], ⟨⟨rfl, rfl⟩, ⟨⟨rfl, rfl⟩, ⟨⟨rfl, rfl⟩, ⟨⟨rfl, rfl⟩, ⟨⟨rfl, rfl⟩, ⟨⟨rfl, rfl⟩, ⟨⟨rfl, rfl⟩, trivial⟩⟩⟩⟩⟩⟩⟩, ⟨⟨rfl, rfl, rfl⟩, ⟨⟨rfl, rfl, rfl⟩, ⟨⟨rfl, rfl, rfl⟩, ⟨⟨rfl, rfl, rfl⟩, trivial⟩⟩⟩⟩, rfl, rfl, rfl⟩, ?_⟩
  · (try dsimp only); exact ⟨Nat.zero_le _, rfl⟩
  rintro ⟨k, kv⟩ hk
  obtain ⟨hk, rfl⟩ : k ≤ b.rs.length ∧ kv = kvG keyC encC (b.rs.take k) := hk
  (try dsimp only)
  by_cases hkl : k < b.rs.length
  · obtain ⟨x, hx⟩ := getElem_some hkl
    repeat' ((conv => whnf); first | (refine ⟨fun h => ?_, fun h => ?_⟩ <;> try (exfalso; first | omega | exact absurd h (by decide) | exact h rfl | exact absurd (show true = false from h) (by decide) | exact absurd (show false = true from h) (by decide))) | (refine ⟨by omega, fun r hrr => ?_⟩; first | ((have hre : r = encC x := by (first | exact get_row hrr hx | fail)); subst hre)) | (refine ⟨_, keyOf_h, x.r, trivial, leVs_of_eq rfl, .inl rfl, rfl, ?_⟩; show norm (.agg [I x.r.gate, I x.r.seq]) _) | (refine ⟨(k + 1, _), ⟨?_, by (try dsimp only); omega⟩, [], ⟨⟨rfl, rfl⟩, ⟨⟨rfl, rfl⟩, ⟨⟨rfl, rfl⟩, ⟨⟨rfl, rfl⟩, ⟨⟨rfl, rfl⟩, ⟨⟨rfl, rfl⟩, ⟨⟨rfl, rfl⟩, trivial⟩⟩⟩⟩⟩⟩⟩, ⟨⟨rfl, rfl, rfl⟩, ⟨⟨rfl, rfl, rfl⟩, ⟨⟨rfl, rfl, rfl⟩, ⟨⟨rfl, rfl, rfl⟩, trivial⟩⟩⟩⟩, rfl, rfl, rfl⟩; (try dsimp only); exact ⟨by omega, (setG (val := encC) (key_apart hK hx)).trans (congrArg (kvG keyC encC) (take_snoc _ _ _ hx).symm)⟩) | refine ⟨⟨by omega, by omega⟩, ?_⟩ | fail)
  rw [take_end hkl]
  cases hi : fidx (keyB r.gate r.seq) b.rs with
  | some i =>
    obtain ⟨c, hc, _, _⟩ := fidx_some hi
    rw [hi] at hE
    dsimp only at hE
    rw [at_of hc] at hE
    have hfk := find_key hi hc
    by_cases hcr : c.r.gate = r.gate ∧ c.r.seq = r.seq ∧ c.r.serial = r.serial ∧ c.r.counter = r.counter ∧ c.r.product = r.product ∧ c.r.lift = r.lift ∧ c.r.time = r.time ∧ True
    · have hcr' : c.r = r := ride_ext hcr
      rw [if_neg (by rw [hcr']; simp)] at hE
      repeat' ((conv => whnf); first | refine lookG_hit hfk ?_ | (refine ⟨fun h => ?_, fun h => ?_⟩ <;> try (exfalso; first | omega | exact absurd h (by decide) | exact h rfl | contradiction | exact absurd (show true = false from h) (by decide) | exact absurd (show false = true from h) (by decide))) | (refine ⟨_, keyOf_h, r, trivial, leVs_of_eq rfl, .inl rfl, rfl, ?_⟩; show norm (.agg [I r.gate, I r.seq]) _) | fail | fail)
      conv => whnf
      dsimp only
      refine ⟨rfl, _, copyOf_h, b, hb, leVs_of_eq rfl, trivial, ?_⟩
      repeat' ((conv => whnf); (try dsimp only [setL, List.map_cons, List.map_nil, List.take, List.drop, SV.cells, constV, shift, St.new, St.put, kills, killI, Nat.reduceAdd]); first | fail | fail)
      conv => whnf
      refine ⟨[], rfl, trivial, ?_⟩
      show leR _ (entX b r)
      rw [entX_old hE hi hc]
      exact ⟨⟨rfl, rfl, rfl, trivial⟩, rfl, rfl, trivial⟩
    · rw [if_pos (ride_ne hcr)] at hE
      repeat' ((conv => whnf); first | refine lookG_hit hfk ?_ | (refine ⟨fun h => ?_, fun h => ?_⟩ <;> try (exfalso; first | omega | exact absurd h (by decide) | exact h rfl | contradiction | exact absurd (show true = false from h) (by decide) | exact absurd (show false = true from h) (by decide))) | (refine ⟨_, keyOf_h, r, trivial, leVs_of_eq rfl, .inl rfl, rfl, ?_⟩; show norm (.agg [I r.gate, I r.seq]) _) | fail | fail)
      all_goals (refine ⟨[], rfl, trivial, ?_⟩; show leR _ (entX b r); rw [entX_err hE (by decide)]; exact ⟨⟨rfl, rfl, rfl, trivial⟩, rfl, rfl, trivial⟩)
  | none =>
    rw [hi] at hE
    dsimp only at hE
    have hfk := find_nokey hi
    cases hj : fidx (opR r) b.ps with
    | none =>
      rw [hj] at hE
      dsimp only at hE
      have hir : idxR b.ps r = -1 := by unfold idxR; rw [hj]
      repeat' ((conv => whnf); first | refine lookG_miss hfk ?_ | (refine ⟨fun h => ?_, fun h => ?_⟩ <;> try (exfalso; first | omega | exact absurd h (by decide) | exact h rfl | contradiction | exact absurd (show true = false from h) (by decide) | exact absurd (show false = true from h) (by decide))) | (refine ⟨_, keyOf_h, r, trivial, leVs_of_eq rfl, .inl rfl, rfl, ?_⟩; show norm (.agg [I r.gate, I r.seq]) _) | (refine ⟨_, idxf_h, (b.ps, r), (by show b.ps.length ≤ 1000000; omega), leVs_of_eq rfl, .inr rfl, rfl, ?_⟩; show norm (I (idxR b.ps r)) _; rw [hir]) | fail | fail)
      all_goals (refine ⟨[], rfl, trivial, ?_⟩; show leR _ (entX b r); rw [entX_err hE (by decide)]; exact ⟨⟨rfl, rfl, rfl, trivial⟩, rfl, rfl, trivial⟩)
    | some i =>
      rw [hj] at hE
      dsimp only at hE
      have hir : idxR b.ps r = i := by unfold idxR; rw [hj]
      obtain ⟨x, hx, _, _⟩ := fidx_some hj
      have hil := (List.getElem?_eq_some_iff.1 hx).1
      by_cases h9 : 2000 ≤ b.rs.length
      · rw [if_pos h9] at hE
        repeat' ((conv => whnf); first | refine lookG_miss hfk ?_ | (refine ⟨fun h => ?_, fun h => ?_⟩ <;> try (exfalso; first | omega | exact absurd h (by decide) | exact h rfl | contradiction | exact absurd (show true = false from h) (by decide) | exact absurd (show false = true from h) (by decide))) | (refine ⟨_, keyOf_h, r, trivial, leVs_of_eq rfl, .inl rfl, rfl, ?_⟩; show norm (.agg [I r.gate, I r.seq]) _) | (refine ⟨_, idxf_h, (b.ps, r), (by show b.ps.length ≤ 1000000; omega), leVs_of_eq rfl, .inr rfl, rfl, ?_⟩; show norm (I (idxR b.ps r)) _; rw [hir]) | fail | fail)
        all_goals (refine ⟨[], rfl, trivial, ?_⟩; show leR _ (entX b r); rw [entX_err hE (by decide)]; exact ⟨⟨rfl, rfl, rfl, trivial⟩, rfl, rfl, trivial⟩)
      · rw [if_neg h9] at hE
        have hnum := persE_num hP hx
        repeat' ((conv => whnf); first | refine lookG_miss hfk ?_ | (refine ⟨fun h => ?_, fun h => ?_⟩ <;> try (exfalso; first | omega | exact absurd h (by decide) | exact h rfl | contradiction | exact absurd (show true = false from h) (by decide) | exact absurd (show false = true from h) (by decide))) | (refine ⟨_, keyOf_h, r, trivial, leVs_of_eq rfl, .inl rfl, rfl, ?_⟩; show norm (.agg [I r.gate, I r.seq]) _) | (refine ⟨_, idxf_h, (b.ps, r), (by show b.ps.length ≤ 1000000; omega), leVs_of_eq rfl, .inr rfl, rfl, ?_⟩; show norm (I (idxR b.ps r)) _; rw [hir]) | fail | fail)
        conv => whnf
        dsimp only
        refine ⟨rfl, _, copyOf_h, b, hb, leVs_of_eq rfl, trivial, ?_⟩
        repeat' ((conv => whnf); (try dsimp only [setL, List.map_cons, List.map_nil, List.take, List.drop, SV.cells, constV, shift, St.new, St.put, kills, killI, Nat.reduceAdd]); first | (refine ⟨by omega, fun r hrr => ?_⟩; first | ((have hre : r = encP x := by (first | exact get_row hrr hx | fail)); subst hre)) | (refine ⟨⟨by first | omega | (simp only [List.length_nil]; omega) | (simp only [List.length_cons, List.length_nil]; omega), by first | omega | (simp only [List.length_nil]; omega) | (simp only [List.length_cons, List.length_nil]; omega)⟩, ?_⟩) | fail | fail)
        conv => whnf
        refine ⟨[], rfl, trivial, ?_⟩
        show leR _ (entX b r)
        rw [entX_new hE hi hj]
        show leR [.agg [L 5 (b.ps.map encP), L 4 (b.po.map encO), L 8 (b.rs.map encC ++ [encC ⟨x.num, r⟩])], I x.num, I 0] _
        rw [hnum]
        exact ⟨⟨rfl, rfl, rfl, trivial⟩, rfl, rfl, trivial⟩
theorem enter_h : Holds Tryz.prog 20 enterS := holds_of mix Tryz.func20 enterLow (fun _ => rfl) enterV

end Go.Proofs.YtpkhannkbafimaaGreat
