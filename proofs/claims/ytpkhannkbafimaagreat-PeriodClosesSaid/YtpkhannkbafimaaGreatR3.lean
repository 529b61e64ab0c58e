/- Periods: what is right of books. -/
import Derived.Test.YtpkhannkbafimaaGreatR2
namespace Go.Proofs.YtpkhannkbafimaaGreat
open Go.RowKit
theorem any_step {α : Type} {p : α → Bool} {l : List α} {k : Nat} {x : α} (h : l[k]? = some x) : (l.take (k + 1)).any p = ((l.take k).any p || p x) := by rw [take_snoc l k x h, List.any_append]; simp
theorem any_no {α : Type} {p : α → Bool} {l : List α} (h : ∀ y ∈ l, p y = false) : l.any p = false := by rw [List.any_eq_false]; intro y hy; rw [h y hy]; exact Bool.false_ne_true
theorem any_yes {α : Type} {p : α → Bool} {l : List α} {i k : Nat} {y : α} (hik : i < k) (hy : l[i]? = some y) (h : p y = true) : (l.take k).any p = true := List.any_eq_true.2 ⟨y, List.mem_of_getElem? (i := i) (by rw [List.getElem?_take_of_lt hik]; exact hy), h⟩
theorem le_take {α : Type} {f : α → List CV} {n : Nat} {l : List α} {k : Nat} : leVs [L n (List.drop (0 : Int).toNat (List.take (k : Int).toNat (l.map f)))] [L n ((l.take k).map f)] := by
  rw [Int.toNat_natCast, show (0 : Int).toNat = 0 from rfl, List.drop_zero, ← List.map_take]
  exact leVs_of_eq rfl
/-- A map with the keys and values of the elements of a list. -/
def kvG {α : Type} (key : α → List Int) (val : α → List CV) (l : List α) : List (List Int × List CV) := l.map fun x => (key x, val x)
theorem findG {α : Type} {key : α → List Int} {val : α → List CV} {k : List Int} : ∀ l : List α, findKV k (kvG key val l) = (l.find? fun x => decide (k = key x)).map val
  | [] => rfl
  | x :: r => by
    rw [kvG, List.map_cons, findKV, List.find?_cons]
    by_cases h : k = key x
    · rw [if_pos h, decide_eq_true h]; rfl
    · rw [if_neg h, decide_eq_false h]; exact findG r
theorem setG {α : Type} {key : α → List Int} {val : α → List CV} {x : α} : ∀ {l : List α}, (∀ y ∈ l, key x ≠ key y) → setKV (key x) (val x) (kvG key val l) = kvG key val (l ++ [x])
  | [], _ => rfl
  | y :: r, h => by
    rw [kvG, List.map_cons, setKV, if_neg (h y (List.mem_cons_self ..))]
    have ih := setG (val := val) (l := r) fun z hz => h z (List.mem_cons_of_mem _ hz)
    rw [kvG] at ih
    rw [ih]; rfl
def kvT {α : Type} (key : α → List Int) (l : List α) : List (List Int × List CV) := kvG key (fun _ => [CV.bool true]) l
theorem lookB_in {α : Type} {key : α → List Int} {l : List α} {p : α → Bool} {k : List Int} (hp : ∀ y, p y = decide (k = key y)) (h : l.any p = true) {K : SV → Prop} (hK : K (.c (.bool true))) :
    (∀ v, findKV k (kvT key l) = some v → gotV false false v true K) ∧ (findKV k (kvT key l) = none → gotV false false [.bool false] false K) := by
  unfold kvT
  rw [findG]
  refine ⟨fun v hv => ?_, fun hn => ?_⟩
  · obtain ⟨y, _, rfl⟩ := Option.map_eq_some_iff.1 hv
    exact hK
  · obtain ⟨y, hy, hpy⟩ := List.any_eq_true.1 h
    have := List.find?_eq_none.1 (Option.map_eq_none_iff.1 hn) y hy
    rw [← hp y] at this
    exact absurd hpy this
theorem lookB_out {α : Type} {key : α → List Int} {l : List α} {p : α → Bool} {k : List Int} (hp : ∀ y, p y = decide (k = key y)) (h : l.any p = false) {K : SV → Prop} (hK : K (.c (.bool false))) :
    (∀ v, findKV k (kvT key l) = some v → gotV false false v true K) ∧ (findKV k (kvT key l) = none → gotV false false [.bool false] false K) := by
  unfold kvT
  rw [findG]
  refine ⟨fun v hv => ?_, fun hn => hK⟩
  obtain ⟨y, hy, rfl⟩ := Option.map_eq_some_iff.1 hv
  have h1 := List.find?_some hy
  rw [← hp y] at h1
  exact absurd h1 (List.any_eq_false.1 h y (List.mem_of_find?_eq_some hy))
theorem setT {α : Type} {key : α → List Int} {l : List α} {p : α → Bool} {x : α} (hp : ∀ y, p y = decide (key x = key y)) (h : l.any p = false) : setKV (key x) [CV.bool true] (kvT key l) = kvT key (l ++ [x]) :=
  setG (val := fun _ => [CV.bool true]) fun y hy e => List.any_eq_false.1 h y hy (by rw [hp y]; exact decide_eq_true e)
abbrev keyO (x : Pst) : List Int := [x.ref]
abbrev keyC (c : Cnt) : List Int := [c.r.gate, c.r.seq]
theorem refB_key (n : Int) (y : Pst) : refB n y = decide ([n] = keyO y) := by
  unfold refB; by_cases h : y.ref = n
  · rw [decide_eq_true h, decide_eq_true (by rw [← h])]
  · rw [decide_eq_false h, decide_eq_false (by simp; exact fun e => h e.symm)]
theorem keyB_key (g s : Int) (y : Cnt) : keyB g s y = decide ([g, s] = keyC y) := by
  unfold keyB; by_cases h : y.r.gate = g ∧ y.r.seq = s
  · rw [decide_eq_true h, decide_eq_true (by rw [← h.1, ← h.2])]
  · rw [decide_eq_false h, decide_eq_false (by simp; exact fun e e' => h ⟨e.symm, e'.symm⟩)]
def accnP (n : Int) : Prop := 0 ≤ n ∧ n ≤ 9999
instance (n : Int) : Decidable (accnP n) := by unfold accnP; infer_instance
/-- The index of the counted ride with a key, -1 without one. -/
def idxC (l : List Cnt) (g s : Int) : Int := match fidx (keyB g s) l with
  | some i => i
  | none => -1
theorem idxC_any {l : List Cnt} {g s : Int} : l.any (keyB g s) = decide (0 ≤ idxC l g s) := by
  unfold idxC
  cases h : fidx (keyB g s) l with
  | none => rw [any_no (fidx_no h)]; exact (decide_eq_false (by dsimp only; omega)).symm
  | some i =>
    obtain ⟨x, hx, hp, _⟩ := fidx_some h
    rw [List.any_eq_true.2 ⟨x, List.mem_of_getElem? hx, hp⟩]
    exact (decide_eq_true (by dsimp only; omega)).symm

/-! skiarea/skiarearef38.first -/
def rfirstIr : IFn := ⟨18, [.tmp 2],
 (.seq (.ops [
 ⟨(some 2), .mov, [.const (.int .i64 0)], none⟩] false)
 (.seq (.seq (.ops [
 ⟨(some 3), .mov, [.const (.int .i64 0)], none⟩] false)
 (.block 0
 (.loop
 (.seq (.seq (.ops [
 ⟨(some 4), .mov, [.tmp 3], none⟩,
 ⟨(some 5), .mov, [.tmp 0], none⟩,
 ⟨(some 6), .len, [.tmp 5], none⟩,
 ⟨(some 7), .cmp .lss, [.tmp 4, .tmp 6], none⟩] false)
 (.cond (.tmp 7)
 .skip
 (.exit 0)))
 (.seq (.block 1
 (.seq (.ops [
 ⟨(some 10), .mov, [.tmp 0], none⟩,
 ⟨(some 11), .mov, [.tmp 3], none⟩,
 ⟨(some 12), .idx 5, [.tmp 10, .tmp 11], none⟩,
 ⟨(some 13), .faddr 3, [.tmp 12], none⟩,
 ⟨(some 14), .load 1 false, [.tmp 13], none⟩,
 ⟨(some 15), .not, [.tmp 14], none⟩] false)
 (.cond (.tmp 15)
 (.seq (.ops [
 ⟨(some 16), .mov, [.tmp 3], none⟩,
 ⟨(some 17), .bin .add .i64 false, [.tmp 16, .const (.int .i64 1)], none⟩,
 ⟨(some 2), .mov, [.tmp 17], none⟩] false)
 .ret)
 .skip)))
 (.ops [
 ⟨(some 8), .mov, [.tmp 3], none⟩,
 ⟨(some 9), .bin .add .i64 false, [.tmp 8, .const (.int .i64 1)], none⟩,
 ⟨(some 3), .mov, [.tmp 9], none⟩] false))))))
 (.seq (.ops [
 ⟨(some 2), .mov, [.const (.int .i64 0)], none⟩] false)
 .ret)))⟩
theorem rfirstLow : lowF Tryz.prog {} Tryz.f52 = some rfirstIr := by kernel_rfl
def rfirstS : Spec := spec (List Per) (fun l => [L 5 (l.map encP)]) (fun l => l.length ≤ 9223372036854775807) (fun l => I (firstN l))
theorem rfirstV : fnV Tryz.prog rfirstIr rfirstS := by
  intro (l : List Per) hx
  replace hx : l.length ≤ 9223372036854775807 := hx
  have hl : (l.map encP).length = l.length := List.length_map ..
  show vc _ _ _ _ ⟨argEnv 0 [L 5 (l.map encP)], [], 0⟩
  conv => whnf
  refine ⟨Nat, fun xq => ⟨[(0, L 5 (l.map encP)), (3, I xq)], [], 0⟩, fun xq => xq ≤ l.length ∧ ∀ y ∈ l.take xq, opB y = false, fun xq => l.length - xq, ⟨0, ?_, [], ⟨⟨rfl, rfl⟩, ⟨⟨rfl, rfl⟩, trivial⟩⟩, trivial, rfl, rfl, rfl⟩, ?_⟩
  · (try dsimp only); exact ⟨Nat.zero_le _, by simp⟩
  rintro k hk
  obtain ⟨hk, hn⟩ : k ≤ l.length ∧ ∀ y ∈ l.take k, opB y = false := hk
  (try dsimp only)
  by_cases hkl : k < l.length
  · obtain ⟨x, hx⟩ := getElem_some hkl
    cases hcl : x.cl with
    | true => repeat' ((conv => whnf); first | (refine ⟨fun h => ?_, fun h => ?_⟩ <;> try (exfalso; first | omega | exact absurd h (by decide) | exact h rfl | exact absurd (hcl.symm.trans h) (by decide))) | (refine ⟨by omega, fun r hrr => ?_⟩; first | ((have hre : r = encP x := by (first | exact get_row hrr hx | fail)); subst hre)) | (refine ⟨k + 1, ⟨?_, by (try dsimp only); omega⟩, [], ⟨⟨rfl, rfl⟩, ⟨⟨rfl, rfl⟩, trivial⟩⟩, trivial, rfl, rfl, rfl⟩; (try dsimp only); exact ⟨by omega, no_step hx hn (by unfold opB; rw [hcl]; rfl)⟩) | refine ⟨⟨by omega, by omega⟩, ?_⟩ | fail)
    | false =>
      have hf := fidx_at hx hn (show opB x = true by unfold opB; rw [hcl]; rfl)
      repeat' ((conv => whnf); first | (refine ⟨fun h => ?_, fun h => ?_⟩ <;> try (exfalso; first | omega | exact absurd h (by decide) | exact h rfl | exact absurd (hcl.symm.trans h) (by decide))) | (refine ⟨by omega, fun r hrr => ?_⟩; first | ((have hre : r = encP x := by (first | exact get_row hrr hx | fail)); subst hre)) | refine ⟨⟨by omega, by omega⟩, ?_⟩ | fail | fail)
      all_goals (refine ⟨[], rfl, trivial, congrArg (CV.int .i64) ?_⟩; exact (show firstN l = _ by unfold firstN; rw [hf]).symm)
  · rw [take_end hkl] at hn
    have hf := fidx_none hn
    repeat' ((conv => whnf); first | (refine ⟨fun h => ?_, fun h => ?_⟩ <;> try (exfalso; first | omega | exact absurd h (by decide) | exact h rfl | exact absurd (show true = false from h) (by decide) | exact absurd (show false = true from h) (by decide))) | fail | fail)
    all_goals (refine ⟨[], rfl, trivial, congrArg (CV.int .i64) ?_⟩; exact (show firstN l = _ by unfold firstN; rw [hf]).symm)
theorem rfirst_h : Holds Tryz.prog 52 rfirstS := holds_of mix Tryz.func52 rfirstLow (fun _ => rfl) rfirstV

/-! skiarea/skiarearef38.First -/
/-! skiarea/period.First -/
def FirstIr : IFn := ⟨18, [.tmp 2],
 (.seq (.ops [
 ⟨(some 1), .box, [.tmp 0], none⟩,
 ⟨(some 2), .mov, [.const (.int .i64 0)], none⟩] false)
 (.seq (.seq (.ops [
 ⟨(some 5), .faddr 0, [.tmp 1], none⟩,
 ⟨(some 6), .load 1 false, [.tmp 5], none⟩,
 ⟨(some 7), .len, [.tmp 6], none⟩,
 ⟨(some 8), .mov, [.const (.int .i64 0)], none⟩] false)
 (.block 0
 (.loop
 (.seq (.ops [
 ⟨(some 9), .cmp .lss, [.tmp 8, .tmp 7], none⟩] false)
 (.seq (.cond (.tmp 9)
 .skip
 (.exit 0))
 (.seq (.block 1
 (.seq (.ops [
 ⟨(some 10), .idx 5, [.tmp 6, .tmp 8], none⟩,
 ⟨(some 11), .load 5 true, [.tmp 10], none⟩,
 ⟨(some 4), .alloc [.int .i64 0, .int .i64 0, .int .i64 0, .bool false, .nil], [], none⟩,
 ⟨none, .store 5, [.tmp 4, .tmp 11], none⟩] false)
 (.seq (.ops [
 ⟨(some 12), .faddr 3, [.tmp 4], none⟩,
 ⟨(some 13), .load 1 false, [.tmp 12], none⟩,
 ⟨(some 14), .not, [.tmp 13], none⟩] false)
 (.cond (.tmp 14)
 (.seq (.ops [
 ⟨(some 15), .faddr 0, [.tmp 4], none⟩,
 ⟨(some 16), .load 1 false, [.tmp 15], none⟩,
 ⟨(some 2), .mov, [.tmp 16], none⟩] false)
 .ret)
 .skip))))
 (.ops [
 ⟨(some 17), .bin .add .i64 false, [.tmp 8, .const (.int .i64 1)], none⟩,
 ⟨(some 8), .mov, [.tmp 17], none⟩] false)))))))
 (.seq (.ops [
 ⟨(some 2), .mov, [.const (.int .i64 0)], none⟩] false)
 .ret)))⟩
theorem FirstLow : lowF Tryz.prog {} Tryz.f18 = some FirstIr := by kernel_rfl
def FirstS : Spec := spec Bk (fun b => [aB b]) okB (fun b => I (firstC b.ps))
theorem FirstV : fnV Tryz.prog FirstIr FirstS := by
  intro (b : Bk) hb
  obtain ⟨l, po, rs⟩ := b
  have hx : l.length ≤ 9223372036854775807 := hb.1.1
  have hl : (l.map encP).length = l.length := List.length_map ..
  show vc _ _ _ _ ⟨argEnv 0 [aB ⟨l, po, rs⟩], [], 0⟩
  conv => whnf
  refine ⟨Nat, fun xq => ⟨[(6, L 5 (l.map encP)), (7, I (l.map encP).length), (8, I xq)], [], 0⟩, fun xq => xq ≤ l.length ∧ ∀ y ∈ l.take xq, opB y = false, fun xq => l.length - xq, ⟨0, ?_, [], ⟨⟨rfl, rfl⟩, ⟨⟨rfl, rfl⟩, ⟨⟨rfl, rfl⟩, trivial⟩⟩⟩, trivial, rfl, rfl, rfl⟩, ?_⟩
  · (try dsimp only); exact ⟨Nat.zero_le _, by simp⟩
  rintro k hk
  obtain ⟨hk, hn⟩ : k ≤ l.length ∧ ∀ y ∈ l.take k, opB y = false := hk
  (try dsimp only)
  by_cases hkl : k < l.length
  · obtain ⟨x, hx⟩ := getElem_some hkl
    cases hcl : x.cl with
    | true => repeat' ((conv => whnf); first | (refine ⟨fun h => ?_, fun h => ?_⟩ <;> try (exfalso; first | omega | exact absurd h (by decide) | exact h rfl | exact absurd (hcl.symm.trans h) (by decide))) | (refine ⟨by omega, fun r hrr => ?_⟩; first | ((have hre : r = encP x := by (first | exact get_row hrr hx | fail)); subst hre)) | (refine ⟨k + 1, ⟨?_, by (try dsimp only); omega⟩, [], ⟨⟨rfl, rfl⟩, ⟨⟨rfl, rfl⟩, ⟨⟨rfl, rfl⟩, trivial⟩⟩⟩, trivial, rfl, rfl, rfl⟩; (try dsimp only); exact ⟨by omega, no_step hx hn (by unfold opB; rw [hcl]; rfl)⟩) | refine ⟨⟨by omega, by omega⟩, ?_⟩ | fail)
    | false =>
      have hf := fidx_at hx hn (show opB x = true by unfold opB; rw [hcl]; rfl)
      repeat' ((conv => whnf); first | (refine ⟨fun h => ?_, fun h => ?_⟩ <;> try (exfalso; first | omega | exact absurd h (by decide) | exact h rfl | exact absurd (hcl.symm.trans h) (by decide))) | (refine ⟨by omega, fun r hrr => ?_⟩; first | ((have hre : r = encP x := by (first | exact get_row hrr hx | fail)); subst hre)) | refine ⟨⟨by omega, by omega⟩, ?_⟩ | fail | fail)
      all_goals (refine ⟨[], rfl, trivial, congrArg (CV.int .i64) ?_⟩; exact (show firstC l = _ by unfold firstC; rw [hf]; exact congrArg Per.num (at_of hx)).symm)
  · rw [take_end hkl] at hn
    have hf := fidx_none hn
    repeat' ((conv => whnf); first | (refine ⟨fun h => ?_, fun h => ?_⟩ <;> try (exfalso; first | omega | exact absurd h (by decide) | exact h rfl | exact absurd (show true = false from h) (by decide) | exact absurd (show false = true from h) (by decide))) | fail | fail)
    all_goals (refine ⟨[], rfl, trivial, congrArg (CV.int .i64) ?_⟩; exact (show firstC l = _ by unfold firstC; rw [hf]).symm)
theorem First_h : Holds Tryz.prog 18 FirstS := holds_of mix Tryz.func18 FirstLow (fun _ => rfl) FirstV

/-! skiarea/period.periods -/
def perFIr : IFn := ⟨70, [.tmp 2],
 (.seq (.ops [
 ⟨(some 2), .mov, [.const (.int .i64 0)], none⟩] false)
 (.seq (.ops [
 ⟨(some 3), .mov, [.const (.bool false)], none⟩] false)
 (.seq (.seq (.ops [
 ⟨(some 6), .mov, [.tmp 0], none⟩,
 ⟨(some 7), .len, [.tmp 6], none⟩,
 ⟨(some 8), .mov, [.const (.int .i64 0)], none⟩] false)
 (.block 0
 (.loop
 (.seq (.ops [
 ⟨(some 9), .cmp .lss, [.tmp 8, .tmp 7], none⟩] false)
 (.seq (.cond (.tmp 9)
 .skip
 (.exit 0))
 (.seq (.block 1
 (.seq (.ops [
 ⟨(some 10), .mov, [.tmp 8], none⟩,
 ⟨(some 11), .idx 5, [.tmp 6, .tmp 8], none⟩,
 ⟨(some 12), .load 5 true, [.tmp 11], none⟩,
 ⟨(some 5), .alloc [.int .i64 0, .int .i64 0, .int .i64 0, .bool false, .nil], [], none⟩,
 ⟨(some 4), .mov, [.tmp 10], none⟩,
 ⟨none, .store 5, [.tmp 5, .tmp 12], none⟩] false)
 (.seq (.seq (.ops [
 ⟨(some 13), .faddr 0, [.tmp 5], none⟩,
 ⟨(some 14), .load 1 false, [.tmp 13], none⟩,
 ⟨(some 15), .mov, [.tmp 4], none⟩,
 ⟨(some 16), .bin .add .i64 false, [.tmp 15, .const (.int .i64 1)], none⟩,
 ⟨(some 17), .cmp .neq, [.tmp 14, .tmp 16], none⟩,
 ⟨(some 18), .mov, [.tmp 17], none⟩,
 ⟨(some 19), .faddr 1, [.tmp 5], (some (18, false))⟩,
 ⟨(some 20), .faddr 0, [.tmp 19], (some (18, false))⟩,
 ⟨(some 21), .load 1 false, [.tmp 20], (some (18, false))⟩,
 ⟨(some 22), .mov, [.tmp 0], (some (18, false))⟩,
 ⟨(some 23), .mov, [.tmp 4], (some (18, false))⟩,
 ⟨(some 24), .slice 5 false true, [.tmp 22, .tmp 23], (some (18, false))⟩,
 ⟨(some 25), .call 48, [.tmp 24], (some (18, false))⟩,
 ⟨(some 26), .cmp .neq, [.tmp 21, .tmp 25], (some (18, false))⟩,
 ⟨(some 27), .pick, [.tmp 18, .const (.bool true), .tmp 26], none⟩,
 ⟨(some 28), .mov, [.tmp 27], none⟩,
 ⟨(some 29), .faddr 1, [.tmp 5], (some (28, false))⟩,
 ⟨(some 30), .faddr 0, [.tmp 29], (some (28, false))⟩,
 ⟨(some 31), .load 1 false, [.tmp 30], (some (28, false))⟩,
 ⟨(some 32), .faddr 1, [.tmp 5], (some (28, false))⟩,
 ⟨(some 33), .faddr 1, [.tmp 32], (some (28, false))⟩,
 ⟨(some 34), .load 1 false, [.tmp 33], (some (28, false))⟩,
 ⟨(some 35), .cmp .geq, [.tmp 31, .tmp 34], (some (28, false))⟩,
 ⟨(some 36), .pick, [.tmp 28, .const (.bool true), .tmp 35], none⟩,
 ⟨(some 37), .mov, [.tmp 36], none⟩,
 ⟨(some 38), .faddr 1, [.tmp 5], (some (37, false))⟩,
 ⟨(some 39), .faddr 1, [.tmp 38], (some (37, false))⟩,
 ⟨(some 40), .load 1 false, [.tmp 39], (some (37, false))⟩,
 ⟨(some 41), .cmp .gtr, [.tmp 40, .const (.int .i64 20000000)], (some (37, false))⟩,
 ⟨(some 42), .pick, [.tmp 37, .const (.bool true), .tmp 41], none⟩] true)
 (.cond (.tmp 42)
 (.seq (.ops [
 ⟨(some 2), .mov, [.const (.int .i64 11)], none⟩] false)
 .ret)
 .skip))
 (.seq (.seq (.ops [
 ⟨(some 43), .faddr 3, [.tmp 5], none⟩,
 ⟨(some 44), .load 1 false, [.tmp 43], none⟩,
 ⟨(some 45), .mov, [.tmp 44], none⟩,
 ⟨(some 46), .mov, [.tmp 3], (some (45, true))⟩,
 ⟨(some 47), .pick, [.tmp 45, .tmp 46, .const (.bool false)], none⟩,
 ⟨(some 48), .mov, [.tmp 47], none⟩,
 ⟨(some 49), .faddr 3, [.tmp 5], (some (48, false))⟩,
 ⟨(some 50), .load 1 false, [.tmp 49], (some (48, false))⟩,
 ⟨(some 51), .not, [.tmp 50], (some (48, false))⟩,
 ⟨(some 52), .mov, [.tmp 51], (some (48, false))⟩,
 ⟨(some 53), .faddr 4, [.tmp 5], (some (52, true))⟩,
 ⟨(some 54), .load 1 false, [.tmp 53], (some (52, true))⟩,
 ⟨(some 55), .len, [.tmp 54], (some (52, true))⟩,
 ⟨(some 56), .cmp .gtr, [.tmp 55, .const (.int .i64 0)], (some (52, true))⟩,
 ⟨(some 57), .pick, [.tmp 52, .tmp 56, .const (.bool false)], (some (48, false))⟩,
 ⟨(some 58), .pick, [.tmp 48, .const (.bool true), .tmp 57], none⟩] false)
 (.cond (.tmp 58)
 (.seq (.ops [
 ⟨(some 2), .mov, [.const (.int .i64 10)], none⟩] false)
 .ret)
 .skip))
 (.seq (.seq (.ops [
 ⟨(some 59), .faddr 4, [.tmp 5], none⟩,
 ⟨(some 60), .load 1 false, [.tmp 59], none⟩,
 ⟨(some 61), .call 61, [.tmp 60], none⟩,
 ⟨(some 62), .not, [.tmp 61], none⟩] false)
 (.cond (.tmp 62)
 (.seq (.ops [
 ⟨(some 2), .mov, [.const (.int .i64 1)], none⟩] false)
 .ret)
 .skip))
 (.ops [
 ⟨(some 63), .mov, [.tmp 3], none⟩,
 ⟨(some 64), .mov, [.tmp 63], none⟩,
 ⟨(some 65), .faddr 3, [.tmp 5], (some (64, false))⟩,
 ⟨(some 66), .load 1 false, [.tmp 65], (some (64, false))⟩,
 ⟨(some 67), .not, [.tmp 66], (some (64, false))⟩,
 ⟨(some 68), .pick, [.tmp 64, .const (.bool true), .tmp 67], none⟩,
 ⟨(some 3), .mov, [.tmp 68], none⟩] false))))))
 (.ops [
 ⟨(some 69), .bin .add .i64 false, [.tmp 8, .const (.int .i64 1)], none⟩,
 ⟨(some 8), .mov, [.tmp 69], none⟩] false)))))))
 (.seq (.ops [
 ⟨(some 2), .mov, [.const (.int .i64 0)], none⟩] false)
 .ret))))⟩
theorem perFLow : lowF Tryz.prog {} Tryz.f41 = some perFIr := by kernel_rfl
def perFS : Spec := spec (List Per) (fun l => [L 5 (l.map encP)]) (fun l => l.length ≤ 9223372036854775807 ∧ ∀ p ∈ l, p.sh.length ≤ 9223372036854775807) (fun l => I (persE l))
theorem perFV : fnV Tryz.prog perFIr perFS := by
  intro (l : List Per) hx
  obtain ⟨hx, hsh⟩ : l.length ≤ 9223372036854775807 ∧ ∀ p ∈ l, p.sh.length ≤ 9223372036854775807 := hx
  have hl : (l.map encP).length = l.length := List.length_map ..
  show vc _ _ _ _ ⟨argEnv 0 [L 5 (l.map encP)], [], 0⟩
  conv => whnf
  refine ⟨Nat × Bool, fun xq => ⟨[(0, L 5 (l.map encP)), (3, B xq.2), (6, L 5 (l.map encP)), (7, I (l.map encP).length), (8, I xq.1)], [], 0⟩, fun xq => xq.1 ≤ l.length ∧ fe (perE l) xq.1 = 0 ∧ xq.2 = (l.take xq.1).any opB, fun xq => l.length - xq.1, ⟨(0, false), ?_, [], ⟨⟨rfl, rfl⟩, ⟨⟨rfl, rfl⟩, ⟨⟨rfl, rfl⟩, ⟨⟨rfl, rfl⟩, ⟨⟨rfl, rfl⟩, trivial⟩⟩⟩⟩⟩, trivial, rfl, rfl, rfl⟩, ?_⟩
  · (try dsimp only); exact ⟨Nat.zero_le _, rfl, rfl⟩
  rintro ⟨k, op⟩ hk
  obtain ⟨hk, h0, hop⟩ : k ≤ l.length ∧ fe (perE l) k = 0 ∧ op = (l.take k).any opB := hk
  (try dsimp only)
  by_cases hkl : k < l.length
  · obtain ⟨x, hx⟩ := getElem_some hkl
    have hsl : (x.sh.map encS).length = x.sh.length := List.length_map ..
    have hshl : x.sh.length ≤ 9223372036854775807 := hsh _ (List.mem_of_getElem? hx)
    have hE : perE l k = if x.num ≠ (k : Int) + 1 ∨ x.fr ≠ endOf (l.take k) ∨ x.to ≤ x.fr ∨ 20000000 < x.to then 11 else if (x.cl = true ∧ (l.take k).any opB = true) ∨ (x.cl = false ∧ 0 < x.sh.length) then 10 else if accB x.sh = false then 1 else 0 := by unfold perE; rw [at_of hx]
    by_cases c1 : x.num ≠ (k : Int) + 1 ∨ x.fr ≠ endOf (l.take k) ∨ x.to ≤ x.fr ∨ 20000000 < x.to
    · repeat' ((conv => whnf); first | (refine ⟨fun h => ?_, fun h => ?_⟩ <;> try (exfalso; first | omega | exact absurd h (by decide) | exact h rfl | exact absurd (show true = false from h) (by decide) | exact absurd (show false = true from h) (by decide))) | (refine ⟨by omega, fun r hrr => ?_⟩; first | ((have hre : r = encP x := by (first | exact get_row hrr hx | fail)); subst hre)) | (refine ⟨_, endp_h, l.take k, (by show (l.take k).length ≤ _; rw [List.length_take]; omega), le_take, .inl rfl, rfl, ?_⟩; show norm (I (endOf (l.take k))) _) | (refine ⟨⟨by decide, by omega, by omega⟩, ?_⟩) | refine ⟨⟨by omega, by omega⟩, ?_⟩ | fail | fail)
      all_goals (refine ⟨[], rfl, trivial, congrArg (CV.int .i64) ?_⟩; exact (fe_hit hkl h0 (hE.trans (if_pos c1)) (by decide)).symm)
    rw [if_neg c1] at hE
    have hany := any_step (p := opB) hx
    cases hcl : x.cl with
    | true =>
      have hopx : opB x = false := by unfold opB; rw [hcl]; rfl
      rw [hopx] at hany
      rw [hcl] at hE
      cases op with
      | true =>
        repeat' ((conv => whnf); first | (refine ⟨fun h => ?_, fun h => ?_⟩ <;> try (exfalso; first | omega | exact absurd h (by decide) | exact h rfl | exact absurd (hcl.symm.trans h) (by decide))) | (refine ⟨by omega, fun r hrr => ?_⟩; first | ((have hre : r = encP x := by (first | exact get_row hrr hx | fail)); subst hre)) | (refine ⟨_, endp_h, l.take k, (by show (l.take k).length ≤ _; rw [List.length_take]; omega), le_take, .inl rfl, rfl, ?_⟩; show norm (I (endOf (l.take k))) _) | (refine ⟨⟨by decide, by omega, by omega⟩, ?_⟩) | refine ⟨⟨by omega, by omega⟩, ?_⟩ | fail | fail)
        all_goals (refine ⟨[], rfl, trivial, congrArg (CV.int .i64) ?_⟩; exact (fe_hit hkl h0 (hE.trans (if_pos (.inl ⟨rfl, hop.symm⟩))) (by decide)).symm)
      | false =>
        rw [if_neg (fun h => by rcases h with ⟨_, h⟩ | ⟨h, _⟩; (rw [← hop] at h; cases h); cases h)] at hE
        cases hac : accB x.sh with
        | false =>
          repeat' ((conv => whnf); first | (refine ⟨fun h => ?_, fun h => ?_⟩ <;> try (exfalso; first | omega | exact absurd h (by decide) | exact h rfl | exact absurd (hcl.symm.trans h) (by decide))) | (refine ⟨by omega, fun r hrr => ?_⟩; first | ((have hre : r = encP x := by (first | exact get_row hrr hx | fail)); subst hre)) | (refine ⟨_, endp_h, l.take k, (by show (l.take k).length ≤ _; rw [List.length_take]; omega), le_take, .inl rfl, rfl, ?_⟩; show norm (I (endOf (l.take k))) _) | (refine ⟨_, acc_h, x.sh, (by show x.sh.length ≤ _; omega), leVs_of_eq rfl, .inl rfl, rfl, ?_⟩; show norm (B (accB x.sh)) _; rw [hac]) | (refine ⟨⟨by decide, by omega, by omega⟩, ?_⟩) | refine ⟨⟨by omega, by omega⟩, ?_⟩ | fail | fail)
          all_goals (refine ⟨[], rfl, trivial, congrArg (CV.int .i64) ?_⟩; exact (fe_hit hkl h0 (hE.trans (if_pos hac)) (by decide)).symm)
        | true =>
          rw [if_neg (by rw [hac]; decide)] at hE
          repeat' ((conv => whnf); first | (refine ⟨fun h => ?_, fun h => ?_⟩ <;> try (exfalso; first | omega | exact absurd h (by decide) | exact h rfl | exact absurd (hcl.symm.trans h) (by decide))) | (refine ⟨by omega, fun r hrr => ?_⟩; first | ((have hre : r = encP x := by (first | exact get_row hrr hx | fail)); subst hre)) | (refine ⟨_, endp_h, l.take k, (by show (l.take k).length ≤ _; rw [List.length_take]; omega), le_take, .inl rfl, rfl, ?_⟩; show norm (I (endOf (l.take k))) _) | (refine ⟨_, acc_h, x.sh, (by show x.sh.length ≤ _; omega), leVs_of_eq rfl, .inl rfl, rfl, ?_⟩; show norm (B (accB x.sh)) _; rw [hac]) | (refine ⟨(k + 1, _), ⟨?_, by (try dsimp only); omega⟩, [], ⟨⟨rfl, rfl⟩, ⟨⟨rfl, rfl⟩, ⟨⟨rfl, rfl⟩, ⟨⟨rfl, rfl⟩, ⟨⟨rfl, rfl⟩, trivial⟩⟩⟩⟩⟩, trivial, rfl, rfl, rfl⟩; (try dsimp only); exact ⟨by omega, fe_go h0 hE, by rw [hany, ← hop]; rfl⟩) | (refine ⟨⟨by decide, by omega, by omega⟩, ?_⟩) | refine ⟨⟨by omega, by omega⟩, ?_⟩ | fail)
    | false =>
      have hopx : opB x = true := by unfold opB; rw [hcl]; rfl
      rw [hopx] at hany
      rw [hcl] at hE
      by_cases hc : 0 < x.sh.length
      · cases op
        all_goals
          repeat' ((conv => whnf); first | (refine ⟨fun h => ?_, fun h => ?_⟩ <;> try (exfalso; first | omega | exact absurd h (by decide) | exact h rfl | exact absurd (hcl.symm.trans h) (by decide))) | (refine ⟨by omega, fun r hrr => ?_⟩; first | ((have hre : r = encP x := by (first | exact get_row hrr hx | fail)); subst hre)) | (refine ⟨_, endp_h, l.take k, (by show (l.take k).length ≤ _; rw [List.length_take]; omega), le_take, .inl rfl, rfl, ?_⟩; show norm (I (endOf (l.take k))) _) | (refine ⟨⟨by decide, by omega, by omega⟩, ?_⟩) | refine ⟨⟨by omega, by omega⟩, ?_⟩ | fail | fail)
          all_goals (refine ⟨[], rfl, trivial, congrArg (CV.int .i64) ?_⟩; exact (fe_hit hkl h0 (hE.trans (if_pos (.inr ⟨rfl, hc⟩))) (by decide)).symm)
      · cases op
        all_goals
          rw [if_neg (fun h => by rcases h with ⟨h, _⟩ | ⟨_, h⟩; (cases h); exact hc h)] at hE
          cases hac : accB x.sh with
          | false =>
            repeat' ((conv => whnf); first | (refine ⟨fun h => ?_, fun h => ?_⟩ <;> try (exfalso; first | omega | exact absurd h (by decide) | exact h rfl | exact absurd (hcl.symm.trans h) (by decide))) | (refine ⟨by omega, fun r hrr => ?_⟩; first | ((have hre : r = encP x := by (first | exact get_row hrr hx | fail)); subst hre)) | (refine ⟨_, endp_h, l.take k, (by show (l.take k).length ≤ _; rw [List.length_take]; omega), le_take, .inl rfl, rfl, ?_⟩; show norm (I (endOf (l.take k))) _) | (refine ⟨_, acc_h, x.sh, (by show x.sh.length ≤ _; omega), leVs_of_eq rfl, .inl rfl, rfl, ?_⟩; show norm (B (accB x.sh)) _; rw [hac]) | (refine ⟨⟨by decide, by omega, by omega⟩, ?_⟩) | refine ⟨⟨by omega, by omega⟩, ?_⟩ | fail | fail)
            all_goals (refine ⟨[], rfl, trivial, congrArg (CV.int .i64) ?_⟩; exact (fe_hit hkl h0 (hE.trans (if_pos hac)) (by decide)).symm)
          | true =>
            rw [if_neg (by rw [hac]; decide)] at hE
            repeat' ((conv => whnf); first | (refine ⟨fun h => ?_, fun h => ?_⟩ <;> try (exfalso; first | omega | exact absurd h (by decide) | exact h rfl | exact absurd (hcl.symm.trans h) (by decide))) | (refine ⟨by omega, fun r hrr => ?_⟩; first | ((have hre : r = encP x := by (first | exact get_row hrr hx | fail)); subst hre)) | (refine ⟨_, endp_h, l.take k, (by show (l.take k).length ≤ _; rw [List.length_take]; omega), le_take, .inl rfl, rfl, ?_⟩; show norm (I (endOf (l.take k))) _) | (refine ⟨_, acc_h, x.sh, (by show x.sh.length ≤ _; omega), leVs_of_eq rfl, .inl rfl, rfl, ?_⟩; show norm (B (accB x.sh)) _; rw [hac]) | (refine ⟨(k + 1, _), ⟨?_, by (try dsimp only); omega⟩, [], ⟨⟨rfl, rfl⟩, ⟨⟨rfl, rfl⟩, ⟨⟨rfl, rfl⟩, ⟨⟨rfl, rfl⟩, ⟨⟨rfl, rfl⟩, trivial⟩⟩⟩⟩⟩, trivial, rfl, rfl, rfl⟩; (try dsimp only); exact ⟨by omega, fe_go h0 hE, by rw [hany, ← hop]; rfl⟩) | (refine ⟨⟨by decide, by omega, by omega⟩, ?_⟩) | refine ⟨⟨by omega, by omega⟩, ?_⟩ | fail)
  · have hkn : k = l.length := by omega
    subst hkn
    repeat' ((conv => whnf); first | (refine ⟨fun h => ?_, fun h => ?_⟩ <;> try (exfalso; first | omega | exact absurd h (by decide) | exact h rfl | exact absurd (show true = false from h) (by decide) | exact absurd (show false = true from h) (by decide))) | fail | fail)
    all_goals (refine ⟨[], rfl, trivial, congrArg (CV.int .i64) ?_⟩; exact (h0).symm)
theorem perF_h : Holds Tryz.prog 41 perFS := holds_of mix Tryz.func41 perFLow (fun _ => rfl) perFV

/-! skiarea/skiarearef38.periods -/
def rperFIr : IFn := ⟨72, [.tmp 2],
 (.seq (.ops [
 ⟨(some 2), .mov, [.const (.int .i64 0)], none⟩] false)
 (.seq (.seq (.ops [
 ⟨(some 3), .mov, [.const (.int .i64 0)], none⟩] false)
 (.block 0
 (.loop
 (.seq (.seq (.ops [
 ⟨(some 5), .mov, [.tmp 3], none⟩,
 ⟨(some 6), .mov, [.tmp 0], none⟩,
 ⟨(some 7), .len, [.tmp 6], none⟩,
 ⟨(some 8), .cmp .lss, [.tmp 5, .tmp 7], none⟩] false)
 (.cond (.tmp 8)
 .skip
 (.exit 0)))
 (.seq (.block 1
 (.seq (.ops [
 ⟨(some 11), .mov, [.tmp 0], none⟩,
 ⟨(some 12), .mov, [.tmp 3], none⟩,
 ⟨(some 13), .idx 5, [.tmp 11, .tmp 12], none⟩,
 ⟨(some 14), .load 5 true, [.tmp 13], none⟩,
 ⟨(some 4), .alloc [.int .i64 0, .int .i64 0, .int .i64 0, .bool false, .nil], [], none⟩,
 ⟨none, .store 5, [.tmp 4, .tmp 14], none⟩] false)
 (.block 2
 (.seq (.ops [
 ⟨(some 16), .faddr 0, [.tmp 4], none⟩,
 ⟨(some 17), .load 1 false, [.tmp 16], none⟩,
 ⟨(some 18), .mov, [.tmp 3], none⟩,
 ⟨(some 19), .bin .add .i64 false, [.tmp 18, .const (.int .i64 1)], none⟩,
 ⟨(some 20), .cmp .neq, [.tmp 17, .tmp 19], none⟩,
 ⟨(some 21), .mov, [.tmp 20], none⟩,
 ⟨(some 22), .faddr 1, [.tmp 4], (some (21, false))⟩,
 ⟨(some 23), .faddr 0, [.tmp 22], (some (21, false))⟩,
 ⟨(some 24), .load 1 false, [.tmp 23], (some (21, false))⟩,
 ⟨(some 25), .mov, [.tmp 0], (some (21, false))⟩,
 ⟨(some 26), .mov, [.tmp 3], (some (21, false))⟩,
 ⟨(some 27), .slice 5 false true, [.tmp 25, .tmp 26], (some (21, false))⟩,
 ⟨(some 28), .call 50, [.tmp 27], (some (21, false))⟩,
 ⟨(some 29), .cmp .neq, [.tmp 24, .tmp 28], (some (21, false))⟩,
 ⟨(some 30), .pick, [.tmp 21, .const (.bool true), .tmp 29], none⟩,
 ⟨(some 31), .mov, [.tmp 30], none⟩,
 ⟨(some 32), .faddr 1, [.tmp 4], (some (31, false))⟩,
 ⟨(some 33), .faddr 0, [.tmp 32], (some (31, false))⟩,
 ⟨(some 34), .load 1 false, [.tmp 33], (some (31, false))⟩,
 ⟨(some 35), .faddr 1, [.tmp 4], (some (31, false))⟩,
 ⟨(some 36), .faddr 1, [.tmp 35], (some (31, false))⟩,
 ⟨(some 37), .load 1 false, [.tmp 36], (some (31, false))⟩,
 ⟨(some 38), .cmp .geq, [.tmp 34, .tmp 37], (some (31, false))⟩,
 ⟨(some 39), .pick, [.tmp 31, .const (.bool true), .tmp 38], none⟩,
 ⟨(some 40), .mov, [.tmp 39], none⟩,
 ⟨(some 41), .faddr 1, [.tmp 4], (some (40, false))⟩,
 ⟨(some 42), .faddr 1, [.tmp 41], (some (40, false))⟩,
 ⟨(some 43), .load 1 false, [.tmp 42], (some (40, false))⟩,
 ⟨(some 44), .cmp .gtr, [.tmp 43, .const (.int .i64 20000000)], (some (40, false))⟩,
 ⟨(some 45), .pick, [.tmp 40, .const (.bool true), .tmp 44], none⟩,
 ⟨(some 15), .mov, [.tmp 45], none⟩] true)
 (.cond (.tmp 15)
 (.seq (.ops [
 ⟨(some 2), .mov, [.const (.int .i64 11)], none⟩] false)
 .ret)
 (.seq (.ops [
 ⟨(some 47), .faddr 3, [.tmp 4], none⟩,
 ⟨(some 48), .load 1 false, [.tmp 47], none⟩,
 ⟨(some 49), .mov, [.tmp 48], none⟩,
 ⟨(some 50), .mov, [.tmp 0], (some (49, true))⟩,
 ⟨(some 51), .mov, [.tmp 3], (some (49, true))⟩,
 ⟨(some 52), .slice 5 false true, [.tmp 50, .tmp 51], (some (49, true))⟩,
 ⟨(some 53), .call 52, [.tmp 52], (some (49, true))⟩,
 ⟨(some 54), .cmp .neq, [.tmp 53, .const (.int .i64 0)], (some (49, true))⟩,
 ⟨(some 55), .pick, [.tmp 49, .tmp 54, .const (.bool false)], none⟩,
 ⟨(some 56), .mov, [.tmp 55], none⟩,
 ⟨(some 57), .faddr 3, [.tmp 4], (some (56, false))⟩,
 ⟨(some 58), .load 1 false, [.tmp 57], (some (56, false))⟩,
 ⟨(some 59), .not, [.tmp 58], (some (56, false))⟩,
 ⟨(some 60), .mov, [.tmp 59], (some (56, false))⟩,
 ⟨(some 61), .faddr 4, [.tmp 4], (some (60, true))⟩,
 ⟨(some 62), .load 1 false, [.tmp 61], (some (60, true))⟩,
 ⟨(some 63), .len, [.tmp 62], (some (60, true))⟩,
 ⟨(some 64), .cmp .gtr, [.tmp 63, .const (.int .i64 0)], (some (60, true))⟩,
 ⟨(some 65), .pick, [.tmp 60, .tmp 64, .const (.bool false)], (some (56, false))⟩,
 ⟨(some 66), .pick, [.tmp 56, .const (.bool true), .tmp 65], none⟩,
 ⟨(some 46), .mov, [.tmp 66], none⟩] false)
 (.cond (.tmp 46)
 (.seq (.ops [
 ⟨(some 2), .mov, [.const (.int .i64 10)], none⟩] false)
 .ret)
 (.seq (.ops [
 ⟨(some 68), .faddr 4, [.tmp 4], none⟩,
 ⟨(some 69), .load 1 false, [.tmp 68], none⟩,
 ⟨(some 70), .call 71, [.tmp 69], none⟩,
 ⟨(some 71), .not, [.tmp 70], none⟩,
 ⟨(some 67), .mov, [.tmp 71], none⟩] false)
 (.cond (.tmp 67)
 (.seq (.ops [
 ⟨(some 2), .mov, [.const (.int .i64 1)], none⟩] false)
 .ret)
 .skip)))))))))
 (.ops [
 ⟨(some 9), .mov, [.tmp 3], none⟩,
 ⟨(some 10), .bin .add .i64 false, [.tmp 9, .const (.int .i64 1)], none⟩,
 ⟨(some 3), .mov, [.tmp 10], none⟩] false))))))
 (.seq (.ops [
 ⟨(some 2), .mov, [.const (.int .i64 0)], none⟩] false)
 .ret)))⟩
theorem rperFLow : lowF Tryz.prog {} Tryz.f44 = some rperFIr := by kernel_rfl
def rperFS : Spec := spec (List Per) (fun l => [L 5 (l.map encP)]) (fun l => l.length ≤ 9223372036854775807 ∧ ∀ p ∈ l, p.sh.length ≤ 9223372036854775807) (fun l => I (persE l))
theorem rperFV : fnV Tryz.prog rperFIr rperFS := by
  intro (l : List Per) hx
  obtain ⟨hx, hsh⟩ : l.length ≤ 9223372036854775807 ∧ ∀ p ∈ l, p.sh.length ≤ 9223372036854775807 := hx
  have hl : (l.map encP).length = l.length := List.length_map ..
  show vc _ _ _ _ ⟨argEnv 0 [L 5 (l.map encP)], [], 0⟩
  conv => whnf
  refine ⟨Nat, fun xq => ⟨[(0, L 5 (l.map encP)), (3, I xq)], [], 0⟩, fun xq => xq ≤ l.length ∧ fe (perE l) xq = 0, fun xq => l.length - xq, ⟨0, ?_, [], ⟨⟨rfl, rfl⟩, ⟨⟨rfl, rfl⟩, trivial⟩⟩, trivial, rfl, rfl, rfl⟩, ?_⟩
  · (try dsimp only); exact ⟨Nat.zero_le _, rfl⟩
  rintro k hk
  obtain ⟨hk, h0⟩ : k ≤ l.length ∧ fe (perE l) k = 0 := hk
  (try dsimp only)
  by_cases hkl : k < l.length
  · obtain ⟨x, hx⟩ := getElem_some hkl
    have hsl : (x.sh.map encS).length = x.sh.length := List.length_map ..
    have hshl : x.sh.length ≤ 9223372036854775807 := hsh _ (List.mem_of_getElem? hx)
    have hE : perE l k = if x.num ≠ (k : Int) + 1 ∨ x.fr ≠ endOf (l.take k) ∨ x.to ≤ x.fr ∨ 20000000 < x.to then 11 else if (x.cl = true ∧ (l.take k).any opB = true) ∨ (x.cl = false ∧ 0 < x.sh.length) then 10 else if accB x.sh = false then 1 else 0 := by unfold perE; rw [at_of hx]
    by_cases c1 : x.num ≠ (k : Int) + 1 ∨ x.fr ≠ endOf (l.take k) ∨ x.to ≤ x.fr ∨ 20000000 < x.to
    · repeat' ((conv => whnf); first | (refine ⟨fun h => ?_, fun h => ?_⟩ <;> try (exfalso; first | omega | exact absurd h (by decide) | exact h rfl | exact absurd (show true = false from h) (by decide) | exact absurd (show false = true from h) (by decide))) | (refine ⟨by omega, fun r hrr => ?_⟩; first | ((have hre : r = encP x := by (first | exact get_row hrr hx | fail)); subst hre)) | (refine ⟨_, rend_h, l.take k, (by show (l.take k).length ≤ _; rw [List.length_take]; omega), le_take, .inl rfl, rfl, ?_⟩; show norm (I (endOf (l.take k))) _) | (refine ⟨⟨by decide, by omega, by omega⟩, ?_⟩) | refine ⟨⟨by omega, by omega⟩, ?_⟩ | fail | fail)
      all_goals (refine ⟨[], rfl, trivial, congrArg (CV.int .i64) ?_⟩; exact (fe_hit hkl h0 (hE.trans (if_pos c1)) (by decide)).symm)
    rw [if_neg c1] at hE
    have hany := any_step (p := opB) hx
    cases hcl : x.cl with
    | true =>
      have hopx : opB x = false := by unfold opB; rw [hcl]; rfl
      rw [hopx] at hany
      rw [hcl] at hE
      have haf := any_fidx (l := l.take k)
      by_cases hf : firstN (l.take k) = 0
      · rw [decide_eq_false (Decidable.not_not.2 hf)] at haf
        rw [if_neg (fun h => by rcases h with ⟨_, h⟩ | ⟨h, _⟩; (rw [haf] at h; cases h); cases h)] at hE
        cases hac : accB x.sh with
        | false =>
          repeat' ((conv => whnf); first | (refine ⟨fun h => ?_, fun h => ?_⟩ <;> try (exfalso; first | omega | exact absurd h (by decide) | exact h rfl | exact absurd (hcl.symm.trans h) (by decide))) | (refine ⟨by omega, fun r hrr => ?_⟩; first | ((have hre : r = encP x := by (first | exact get_row hrr hx | fail)); subst hre)) | (refine ⟨_, rend_h, l.take k, (by show (l.take k).length ≤ _; rw [List.length_take]; omega), le_take, .inl rfl, rfl, ?_⟩; show norm (I (endOf (l.take k))) _) | (refine ⟨_, rfirst_h, l.take k, (by show (l.take k).length ≤ _; rw [List.length_take]; omega), le_take, .inl rfl, rfl, ?_⟩; show norm (I (firstN (l.take k))) _) | (refine ⟨_, racc_h, x.sh, (by show x.sh.length ≤ _; omega), leVs_of_eq rfl, .inl rfl, rfl, ?_⟩; show norm (B (accB x.sh)) _; rw [hac]) | (refine ⟨⟨by decide, by omega, by omega⟩, ?_⟩) | refine ⟨⟨by omega, by omega⟩, ?_⟩ | fail | fail)
          all_goals (refine ⟨[], rfl, trivial, congrArg (CV.int .i64) ?_⟩; exact (fe_hit hkl h0 (hE.trans (if_pos hac)) (by decide)).symm)
        | true =>
          rw [if_neg (by rw [hac]; decide)] at hE
          repeat' ((conv => whnf); first | (refine ⟨fun h => ?_, fun h => ?_⟩ <;> try (exfalso; first | omega | exact absurd h (by decide) | exact h rfl | exact absurd (hcl.symm.trans h) (by decide))) | (refine ⟨by omega, fun r hrr => ?_⟩; first | ((have hre : r = encP x := by (first | exact get_row hrr hx | fail)); subst hre)) | (refine ⟨_, rend_h, l.take k, (by show (l.take k).length ≤ _; rw [List.length_take]; omega), le_take, .inl rfl, rfl, ?_⟩; show norm (I (endOf (l.take k))) _) | (refine ⟨_, rfirst_h, l.take k, (by show (l.take k).length ≤ _; rw [List.length_take]; omega), le_take, .inl rfl, rfl, ?_⟩; show norm (I (firstN (l.take k))) _) | (refine ⟨_, racc_h, x.sh, (by show x.sh.length ≤ _; omega), leVs_of_eq rfl, .inl rfl, rfl, ?_⟩; show norm (B (accB x.sh)) _; rw [hac]) | (refine ⟨k + 1, ⟨?_, by (try dsimp only); omega⟩, [], ⟨⟨rfl, rfl⟩, ⟨⟨rfl, rfl⟩, trivial⟩⟩, trivial, rfl, rfl, rfl⟩; (try dsimp only); exact ⟨by omega, fe_go h0 hE⟩) | (refine ⟨⟨by decide, by omega, by omega⟩, ?_⟩) | refine ⟨⟨by omega, by omega⟩, ?_⟩ | fail)
      · rw [decide_eq_true hf] at haf
        repeat' ((conv => whnf); first | (refine ⟨fun h => ?_, fun h => ?_⟩ <;> try (exfalso; first | omega | exact absurd h (by decide) | exact h rfl | exact absurd (hcl.symm.trans h) (by decide))) | (refine ⟨by omega, fun r hrr => ?_⟩; first | ((have hre : r = encP x := by (first | exact get_row hrr hx | fail)); subst hre)) | (refine ⟨_, rend_h, l.take k, (by show (l.take k).length ≤ _; rw [List.length_take]; omega), le_take, .inl rfl, rfl, ?_⟩; show norm (I (endOf (l.take k))) _) | (refine ⟨_, rfirst_h, l.take k, (by show (l.take k).length ≤ _; rw [List.length_take]; omega), le_take, .inl rfl, rfl, ?_⟩; show norm (I (firstN (l.take k))) _) | (refine ⟨⟨by decide, by omega, by omega⟩, ?_⟩) | refine ⟨⟨by omega, by omega⟩, ?_⟩ | fail | fail)
        all_goals (refine ⟨[], rfl, trivial, congrArg (CV.int .i64) ?_⟩; exact (fe_hit hkl h0 (hE.trans (if_pos (.inl ⟨rfl, haf⟩))) (by decide)).symm)
    | false =>
      have hopx : opB x = true := by unfold opB; rw [hcl]; rfl
      rw [hopx] at hany
      rw [hcl] at hE
      by_cases hc : 0 < x.sh.length
      · skip
        all_goals
          repeat' ((conv => whnf); first | (refine ⟨fun h => ?_, fun h => ?_⟩ <;> try (exfalso; first | omega | exact absurd h (by decide) | exact h rfl | exact absurd (hcl.symm.trans h) (by decide))) | (refine ⟨by omega, fun r hrr => ?_⟩; first | ((have hre : r = encP x := by (first | exact get_row hrr hx | fail)); subst hre)) | (refine ⟨_, rend_h, l.take k, (by show (l.take k).length ≤ _; rw [List.length_take]; omega), le_take, .inl rfl, rfl, ?_⟩; show norm (I (endOf (l.take k))) _) | (refine ⟨⟨by decide, by omega, by omega⟩, ?_⟩) | refine ⟨⟨by omega, by omega⟩, ?_⟩ | fail | fail)
          all_goals (refine ⟨[], rfl, trivial, congrArg (CV.int .i64) ?_⟩; exact (fe_hit hkl h0 (hE.trans (if_pos (.inr ⟨rfl, hc⟩))) (by decide)).symm)
      · skip
        all_goals
          rw [if_neg (fun h => by rcases h with ⟨h, _⟩ | ⟨_, h⟩; (cases h); exact hc h)] at hE
          cases hac : accB x.sh with
          | false =>
            repeat' ((conv => whnf); first | (refine ⟨fun h => ?_, fun h => ?_⟩ <;> try (exfalso; first | omega | exact absurd h (by decide) | exact h rfl | exact absurd (hcl.symm.trans h) (by decide))) | (refine ⟨by omega, fun r hrr => ?_⟩; first | ((have hre : r = encP x := by (first | exact get_row hrr hx | fail)); subst hre)) | (refine ⟨_, rend_h, l.take k, (by show (l.take k).length ≤ _; rw [List.length_take]; omega), le_take, .inl rfl, rfl, ?_⟩; show norm (I (endOf (l.take k))) _) | (refine ⟨_, racc_h, x.sh, (by show x.sh.length ≤ _; omega), leVs_of_eq rfl, .inl rfl, rfl, ?_⟩; show norm (B (accB x.sh)) _; rw [hac]) | (refine ⟨⟨by decide, by omega, by omega⟩, ?_⟩) | refine ⟨⟨by omega, by omega⟩, ?_⟩ | fail | fail)
            all_goals (refine ⟨[], rfl, trivial, congrArg (CV.int .i64) ?_⟩; exact (fe_hit hkl h0 (hE.trans (if_pos hac)) (by decide)).symm)
          | true =>
            rw [if_neg (by rw [hac]; decide)] at hE
            repeat' ((conv => whnf); first | (refine ⟨fun h => ?_, fun h => ?_⟩ <;> try (exfalso; first | omega | exact absurd h (by decide) | exact h rfl | exact absurd (hcl.symm.trans h) (by decide))) | (refine ⟨by omega, fun r hrr => ?_⟩; first | ((have hre : r = encP x := by (first | exact get_row hrr hx | fail)); subst hre)) | (refine ⟨_, rend_h, l.take k, (by show (l.take k).length ≤ _; rw [List.length_take]; omega), le_take, .inl rfl, rfl, ?_⟩; show norm (I (endOf (l.take k))) _) | (refine ⟨_, racc_h, x.sh, (by show x.sh.length ≤ _; omega), leVs_of_eq rfl, .inl rfl, rfl, ?_⟩; show norm (B (accB x.sh)) _; rw [hac]) | (refine ⟨k + 1, ⟨?_, by (try dsimp only); omega⟩, [], ⟨⟨rfl, rfl⟩, ⟨⟨rfl, rfl⟩, trivial⟩⟩, trivial, rfl, rfl, rfl⟩; (try dsimp only); exact ⟨by omega, fe_go h0 hE⟩) | (refine ⟨⟨by decide, by omega, by omega⟩, ?_⟩) | refine ⟨⟨by omega, by omega⟩, ?_⟩ | fail)
  · have hkn : k = l.length := by omega
    subst hkn
    repeat' ((conv => whnf); first | (refine ⟨fun h => ?_, fun h => ?_⟩ <;> try (exfalso; first | omega | exact absurd h (by decide) | exact h rfl | exact absurd (show true = false from h) (by decide) | exact absurd (show false = true from h) (by decide))) | fail | fail)
    all_goals (refine ⟨[], rfl, trivial, congrArg (CV.int .i64) ?_⟩; exact (h0).symm)
theorem rperF_h : Holds Tryz.prog 44 rperFS := holds_of mix Tryz.func44 rperFLow (fun _ => rfl) rperFV

end Go.Proofs.YtpkhannkbafimaaGreat
