/- A part of the proof. -/
import Derived.Test.YtjpdaapjnpdiiaaGreatQR2
namespace Go.Proofs.YtjpdaapjnpdiiaaGreat.P
open Go.RowKit
theorem any_step {α : Type} {p : α → Bool} {l : List α} {k : Nat} {x : α} (h : l[k]? = some x) : (l.take (k + 1)).any p = ((l.take k).any p || p x) := by rw [take_snoc l k x h, List.any_append]; simp
theorem any_no {α : Type} {p : α → Bool} {l : List α} (h : ∀ y ∈ l, p y = false) : l.any p = false := by rw [List.any_eq_false]; intro y hy; rw [h y hy]; exact Bool.false_ne_true
theorem any_yes {α : Type} {p : α → Bool} {l : List α} {i k : Nat} {y : α} (hik : i < k) (hy : l[i]? = some y) (h : p y = true) : (l.take k).any p = true := List.any_eq_true.2 ⟨y, List.mem_of_getElem? (i := i) (by rw [List.getElem?_take_of_lt hik]; exact hy), h⟩
theorem le_take {α : Type} {f : α → List CV} {n : Nat} {l : List α} {k : Nat} : leVs [L n (List.drop (0 : Int).toNat (List.take (k : Int).toNat (l.map f)))] [L n ((l.take k).map f)] := by
 rw [Int.toNat_natCast, show (0 : Int).toNat = 0 from rfl, List.drop_zero, ← List.map_take]
 exact leVs_of_eq rfl
def kvG {α : Type} (key : α → List Int) (val : α → List CV) (l : List α) : List (List Int × List CV) := l.map fun x => (key x, val x)
theorem findG {α : Type} {key : α → List Int} {val : α → List CV} {k : List Int} : ∀ l : List α, findKV k (kvG key val l) = (l.find? fun x => decide (k = key x)).map val
 | [] => rfl
 | x :: r => by
   rw [kvG, List.map_cons, findKV, List.find?_cons]
   by_cases h : k = key x
   · rw [if_pos h, decide_eq_true h]; rfl
   · rw [if_neg h, decide_eq_false h]; exact findG r
theorem setG {α : Type} {key : α → List Int} {val : α → List CV} {x : α} : ∀ {l : List α}, (∀ y ∈ l, key x ≠ key y) → setKV (key x) (val x) (kvG key val l) = kvG key val (l ++ [x])
 | [], _ => rfl
 | y :: r, h => by
   rw [kvG, List.map_cons, setKV, if_neg (h y (List.mem_cons_self ..))]
   have ih := setG (val := val) (l := r) fun z hz => h z (List.mem_cons_of_mem _ hz)
   rw [kvG] at ih
   rw [ih]; rfl
def kvT {α : Type} (key : α → List Int) (l : List α) : List (List Int × List CV) := kvG key (fun _ => [CV.bool true]) l
theorem lookB_in {α : Type} {key : α → List Int} {l : List α} {p : α → Bool} {k : List Int} (hp : ∀ y, p y = decide (k = key y)) (h : l.any p = true) {K : SV → Prop} (hK : K (.c (.bool true))) :
   (∀ v, findKV k (kvT key l) = some v → gotV false false v true K) ∧ (findKV k (kvT key l) = none → gotV false false [.bool false] false K) := by
 unfold kvT
 rw [findG]
 refine ⟨fun v hv => ?_, fun hn => ?_⟩
 · obtain ⟨y, _, rfl⟩ := Option.map_eq_some_iff.1 hv
   exact hK
 · obtain ⟨y, hy, hpy⟩ := List.any_eq_true.1 h
   have := List.find?_eq_none.1 (Option.map_eq_none_iff.1 hn) y hy
   rw [← hp y] at this
   exact absurd hpy this
theorem lookB_out {α : Type} {key : α → List Int} {l : List α} {p : α → Bool} {k : List Int} (hp : ∀ y, p y = decide (k = key y)) (h : l.any p = false) {K : SV → Prop} (hK : K (.c (.bool false))) :
   (∀ v, findKV k (kvT key l) = some v → gotV false false v true K) ∧ (findKV k (kvT key l) = none → gotV false false [.bool false] false K) := by
 unfold kvT
 rw [findG]
 refine ⟨fun v hv => ?_, fun hn => hK⟩
 obtain ⟨y, hy, rfl⟩ := Option.map_eq_some_iff.1 hv
 have h1 := List.find?_some hy
 rw [← hp y] at h1
 exact absurd h1 (List.any_eq_false.1 h y (List.mem_of_find?_eq_some hy))
theorem setT {α : Type} {key : α → List Int} {l : List α} {p : α → Bool} {x : α} (hp : ∀ y, p y = decide (key x = key y)) (h : l.any p = false) : setKV (key x) [CV.bool true] (kvT key l) = kvT key (l ++ [x]) :=
 setG (val := fun _ => [CV.bool true]) fun y hy e => List.any_eq_false.1 h y hy (by rw [hp y]; exact decide_eq_true e)
abbrev keyO (x : Pst) : List Int := [x.ref]
theorem refB_key (n : Int) (y : Pst) : refB n y = decide ([n] = keyO y) := by
 unfold refB; by_cases h : y.ref = n
 · rw [decide_eq_true h, decide_eq_true (by rw [← h])]
 · rw [decide_eq_false h, decide_eq_false (by simp; exact fun e => h e.symm)]
def accnP (n : Int) : Prop := 0 ≤ n ∧ n ≤ 9999
instance (n : Int) : Decidable (accnP n) := by unfold accnP; infer_instance
def idxC (l : List Cnt) (g s : Int) : Int := match fidx (keyB g s) l with
 | some i => i
 | none => -1
theorem idxC_any {l : List Cnt} {g s : Int} : l.any (keyB g s) = decide (0 ≤ idxC l g s) := by
 unfold idxC
 cases h : fidx (keyB g s) l with
 | none => rw [any_no (fidx_no h)]; exact (decide_eq_false (by dsimp only; omega)).symm
 | some i =>
   obtain ⟨x, hx, hp, _⟩ := fidx_some h
   rw [List.any_eq_true.2 ⟨x, List.mem_of_getElem? hx, hp⟩]
   exact (decide_eq_true (by dsimp only; omega)).symm
def rfirstIr : IFn := ⟨18, [.tmp 2], (zq [ zl 2 .mov [zi 0]] (.seq (zq [ zl 3 .mov [zi 0]] (.block 0 (.loop (.seq (zq [ zm 4 3, zm 5 0, zo 6 .len [5], zo 7 (.cmp .lss) [4, 6]] (.cond (.tmp 7) .skip (.exit 0))) (.seq (.block 1 (zq [ zm 10 0, zm 11 3, zo 12 (.idx 5) [10, 11], zo 13 (.faddr 3) [12], zo 14 (.load 1 false) [13], zo 15 .not [14]] (.cond (.tmp 15) (zq [ zm 16 3, zl 17 (.bin .add .i64 false) [.tmp 16, zi 1], zm 2 17] .ret) .skip))) (zp [ zm 8 3, zl 9 (.bin .add .i64 false) [.tmp 8, zi 1], zm 3 9])))))) (zq [ zl 2 .mov [zi 0]] .ret)))⟩
theorem rfirstLow : lowF Tryz.prog {} Tryz.f73 = some rfirstIr := by kernel_rfl
def rfirstS : Spec := spec (List Per) (fun l => [L 5 (l.map encP)]) (fun l => l.length ≤ 9223372036854775807) (fun l => I (firstN l))
theorem rfirstV : fnV Tryz.prog rfirstIr rfirstS := by
 intro (l : List Per) hx
 replace hx : l.length ≤ 9223372036854775807 := hx
 have hl : (l.map encP).length = l.length := List.length_map ..
 show vc _ _ _ _ ⟨argEnv 0 [L 5 (l.map encP)], [], 0⟩
 conv => whnf
 refine ⟨Nat, fun xq => ⟨[(0, L 5 (l.map encP)), (3, I xq)], [], 0⟩, fun xq => xq ≤ l.length ∧ ∀ y ∈ l.take xq, opB y = false, fun xq => l.length - xq, ⟨0, ?_, [], ⟨⟨rfl, rfl⟩, ⟨rfl, rfl⟩, trivial⟩, trivial, rfl, rfl, rfl⟩, ?_⟩
 · (try dsimp only); exact ⟨Nat.zero_le _, by simp⟩
 rintro k hk
 obtain ⟨hk, hn⟩ : k ≤ l.length ∧ ∀ y ∈ l.take k, opB y = false := hk
 (try dsimp only)
 by_cases hkl : k < l.length
 · obtain ⟨x, hx⟩ := getElem_some hkl
   cases hcl : x.cl with
   | true => repeat' ((conv => whnf); first | (refine ⟨fun h => ?_, fun h => ?_⟩ <;> try (exfalso; first | omega | (revert h; decide) | exact h rfl | exact absurd (hcl.symm.trans h) (by decide))) | (refine ⟨by omega, fun r hrr => ?_⟩; first | ((have hre : r = encP x := by (first | exact get_row hrr hx | fail)); subst hre)) | (refine ⟨k + 1, ⟨?_, by (try dsimp only); omega⟩, [], ⟨⟨rfl, rfl⟩, ⟨rfl, rfl⟩, trivial⟩, trivial, rfl, rfl, rfl⟩; (try dsimp only); exact ⟨by omega, no_step hx hn (by unfold opB; rw [hcl]; rfl)⟩) | refine ⟨⟨by omega, by omega⟩, ?_⟩ | fail)
   | false =>
     have hf := fidx_at hx hn (show opB x = true by unfold opB; rw [hcl]; rfl)
     repeat' ((conv => whnf); first | (refine ⟨fun h => ?_, fun h => ?_⟩ <;> try (exfalso; first | omega | (revert h; decide) | exact h rfl | exact absurd (hcl.symm.trans h) (by decide))) | (refine ⟨by omega, fun r hrr => ?_⟩; first | ((have hre : r = encP x := by (first | exact get_row hrr hx | fail)); subst hre)) | refine ⟨⟨by omega, by omega⟩, ?_⟩ | fail)
     all_goals (refine ⟨[], rfl, trivial, congrArg (CV.int .i64) ?_⟩; exact (show firstN l = _ by unfold firstN; rw [hf]).symm)
 · rw [take_end hkl] at hn
   have hf := fidx_none hn
   repeat' ((conv => whnf); first | (refine ⟨fun h => ?_, fun h => ?_⟩ <;> try (exfalso; first | omega | (revert h; decide) | exact h rfl | cases (show true = false from h) | cases (show false = true from h))) | fail)
   all_goals (refine ⟨[], rfl, trivial, congrArg (CV.int .i64) ?_⟩; exact (show firstN l = _ by unfold firstN; rw [hf]).symm)
theorem rfirst_h : Holds Tryz.prog 73 rfirstS := holds_of mix Tryz.func73 rfirstLow (fun _ => rfl) rfirstV
def FirstIr : IFn := ⟨18, [.tmp 2], (zq [ zo 1 .box [0], zl 2 .mov [zi 0]] (.seq (zq [ zo 5 (.faddr 0) [1], zo 6 (.load 1 false) [5], zo 7 .len [6], zl 8 .mov [zi 0]] (.block 0 (.loop (zq [ zo 9 (.cmp .lss) [8, 7]] (.seq (.cond (.tmp 9) .skip (.exit 0)) (.seq (.block 1 (zq [ zo 10 (.idx 5) [6, 8], zo 11 (.load 5 true) [10], zo 4 (.alloc [.int .i64 0, .int .i64 0, .int .i64 0, .bool false, .nil]) [], zn (.store 5) [4, 11]] (zq [ zo 12 (.faddr 3) [4], zo 13 (.load 1 false) [12], zo 14 .not [13]] (.cond (.tmp 14) (zq [ zo 15 (.faddr 0) [4], zo 16 (.load 1 false) [15], zm 2 16] .ret) .skip)))) (zp [ zl 17 (.bin .add
 .i64 false) [.tmp 8, zi 1], zm 8 17]))))))) (zq [ zl 2 .mov [zi 0]] .ret)))⟩
theorem FirstLow : lowF Tryz.prog {} Tryz.f35 = some FirstIr := by kernel_rfl
def FirstS : Spec := spec Bk (fun b => [aB b]) okB (fun b => I (firstC b.ps))
theorem FirstV : fnV Tryz.prog FirstIr FirstS := by
 intro (b : Bk) hb
 obtain ⟨l, po, rs⟩ := b
 have hx : l.length ≤ 9223372036854775807 := hb.1.1
 have hl : (l.map encP).length = l.length := List.length_map ..
 show vc _ _ _ _ ⟨argEnv 0 [aB ⟨l, po, rs⟩], [], 0⟩
 conv => whnf
 refine ⟨Nat, fun xq => ⟨[(6, L 5 (l.map encP)), (7, I (l.map encP).length), (8, I xq)], [], 0⟩, fun xq => xq ≤ l.length ∧ ∀ y ∈ l.take xq, opB y = false, fun xq => l.length - xq, ⟨0, ?_, [], ⟨⟨rfl, rfl⟩, ⟨rfl, rfl⟩, ⟨rfl, rfl⟩, trivial⟩, trivial, rfl, rfl, rfl⟩, ?_⟩
 · (try dsimp only); exact ⟨Nat.zero_le _, by simp⟩
 rintro k hk
 obtain ⟨hk, hn⟩ : k ≤ l.length ∧ ∀ y ∈ l.take k, opB y = false := hk
 (try dsimp only)
 by_cases hkl : k < l.length
 · obtain ⟨x, hx⟩ := getElem_some hkl
   cases hcl : x.cl with
   | true => repeat' ((conv => whnf); first | (refine ⟨fun h => ?_, fun h => ?_⟩ <;> try (exfalso; first | omega | (revert h; decide) | exact h rfl | exact absurd (hcl.symm.trans h) (by decide))) | (refine ⟨by omega, fun r hrr => ?_⟩; first | ((have hre : r = encP x := by (first | exact get_row hrr hx | fail)); subst hre)) | (refine ⟨k + 1, ⟨?_, by (try dsimp only); omega⟩, [], ⟨⟨rfl, rfl⟩, ⟨rfl, rfl⟩, ⟨rfl, rfl⟩, trivial⟩, trivial, rfl, rfl, rfl⟩; (try dsimp only); exact ⟨by omega, no_step hx hn (by unfold opB; rw [hcl]; rfl)⟩) | refine ⟨⟨by omega, by omega⟩, ?_⟩ | fail)
   | false =>
     have hf := fidx_at hx hn (show opB x = true by unfold opB; rw [hcl]; rfl)
     repeat' ((conv => whnf); first | (refine ⟨fun h => ?_, fun h => ?_⟩ <;> try (exfalso; first | omega | (revert h; decide) | exact h rfl | exact absurd (hcl.symm.trans h) (by decide))) | (refine ⟨by omega, fun r hrr => ?_⟩; first | ((have hre : r = encP x := by (first | exact get_row hrr hx | fail)); subst hre)) | refine ⟨⟨by omega, by omega⟩, ?_⟩ | fail)
     all_goals (refine ⟨[], rfl, trivial, congrArg (CV.int .i64) ?_⟩; exact (show firstC l = _ by unfold firstC; rw [hf]; exact congrArg Per.num (at_of hx)).symm)
 · rw [take_end hkl] at hn
   have hf := fidx_none hn
   repeat' ((conv => whnf); first | (refine ⟨fun h => ?_, fun h => ?_⟩ <;> try (exfalso; first | omega | (revert h; decide) | exact h rfl | cases (show true = false from h) | cases (show false = true from h))) | fail)
   all_goals (refine ⟨[], rfl, trivial, congrArg (CV.int .i64) ?_⟩; exact (show firstC l = _ by unfold firstC; rw [hf]).symm)
theorem First_h : Holds Tryz.prog 35 FirstS := holds_of mix Tryz.func35 FirstLow (fun _ => rfl) FirstV
def rperFIr : IFn := ⟨72, [.tmp 2], (zq [ zl 2 .mov [zi 0]] (.seq (zq [ zl 3 .mov [zi 0]] (.block 0 (.loop (.seq (zq [ zm 5 3, zm 6 0, zo 7 .len [6], zo 8 (.cmp .lss) [5, 7]] (.cond (.tmp 8) .skip (.exit 0))) (.seq (.block 1 (zq [ zm 11 0, zm 12 3, zo 13 (.idx 5) [11, 12], zo 14 (.load 5 true) [13], zo 4 (.alloc [.int .i64 0, .int .i64 0, .int .i64 0, .bool false, .nil]) [], zn (.store 5) [4, 14]] (.block 2 (.seq (.ops [ zo 16 (.faddr 0) [4], zo 17 (.load 1 false) [16], zm 18 3, zl 19 (.bin .add .i64 false) [.tmp 18, zi 1], zo 20 (.cmp .neq) [17, 19], zm 21 20, zg 22 (.faddr 1) [4] 21 false, zg 23 (.faddr 0) [22]
 21 false, zg 24 (.load 1 false) [23] 21 false, zw 25 0 21 false, zw 26 3 21 false, zg 27 (.slice 5 false true) [25, 26] 21 false, zg 28 (.call 72) [27] 21 false, zg 29 (.cmp .neq) [24, 28] 21 false, zl 30 .pick [.tmp 21, zv, .tmp 29], zm 31 30, zg 32 (.faddr 1) [4] 31 false, zg 33 (.faddr 0) [32] 31 false, zg 34 (.load 1 false) [33] 31 false, zg 35 (.faddr 1) [4] 31 false, zg 36 (.faddr 1) [35] 31 false, zg 37 (.load 1 false) [36] 31 false, zg 38 (.cmp .geq) [34, 37] 31 false, zl 39 .pick [.tmp 31, zv, .tmp 38], zm 40 39, zg 41 (.faddr 1) [4] 40 false, zg 42 (.faddr 1) [41] 40 false, zg 43
 (.load 1 false) [42] 40 false, zh 44 (.cmp .gtr) [.tmp 43, zi 20000000] 40 false, zl 45 .pick [.tmp 40, zv, .tmp 44], zm 15 45] true) (.cond (.tmp 15) (zq [ zl 2 .mov [zi 11]] .ret) (zq [ zo 47 (.faddr 3) [4], zo 48 (.load 1 false) [47], zm 49 48, zw 50 0 49 true, zw 51 3 49 true, zg 52 (.slice 5 false true) [50, 51] 49 true, zg 53 (.call 73) [52] 49 true, zh 54 (.cmp .neq) [.tmp 53, zi 0] 49 true, zl 55 .pick [.tmp 49, .tmp 54, zf], zm 56 55, zg 57 (.faddr 3) [4] 56 false, zg 58 (.load 1 false) [57] 56 false, zg 59 .not [58] 56 false, zw 60 59 56 false, zg 61 (.faddr 4) [4] 60 true, zg 62
 (.load 1 false) [61] 60 true, zg 63 .len [62] 60 true, zh 64 (.cmp .gtr) [.tmp 63, zi 0] 60 true, zh 65 .pick [.tmp 60, .tmp 64, zf] 56 false, zl 66 .pick [.tmp 56, zv, .tmp 65], zm 46 66] (.cond (.tmp 46) (zq [ zl 2 .mov [zi 10]] .ret) (zq [ zo 68 (.faddr 4) [4], zo 69 (.load 1 false) [68], zo 70 (.call 74) [69], zo 71 .not [70], zm 67 71] (.cond (.tmp 67) (zq [ zl 2 .mov [zi 1]] .ret) .skip))))))))) (zp [ zm 9 3, zl 10 (.bin .add .i64 false) [.tmp 9, zi 1], zm 3 10])))))) (zq [ zl 2 .mov [zi 0]] .ret)))⟩
theorem rperFLow : lowF Tryz.prog {} Tryz.f42 = some rperFIr := by kernel_rfl
def rperFS : Spec := spec (List Per) (fun l => [L 5 (l.map encP)]) (fun l => l.length ≤ 9223372036854775807 ∧ ∀ p ∈ l, p.sh.length ≤ 9223372036854775807) (fun l => I (persE l))
theorem rperFV : fnV Tryz.prog rperFIr rperFS := by
 intro (l : List Per) hx
 obtain ⟨hx, hsh⟩ : l.length ≤ 9223372036854775807 ∧ ∀ p ∈ l, p.sh.length ≤ 9223372036854775807 := hx
 have hl : (l.map encP).length = l.length := List.length_map ..
 show vc _ _ _ _ ⟨argEnv 0 [L 5 (l.map encP)], [], 0⟩
 conv => whnf
 refine ⟨Nat, fun xq => ⟨[(0, L 5 (l.map encP)), (3, I xq)], [], 0⟩, fun xq => xq ≤ l.length ∧ fe (perE l) xq = 0, fun xq => l.length - xq, ⟨0, ?_, [], ⟨⟨rfl, rfl⟩, ⟨rfl, rfl⟩, trivial⟩, trivial, rfl, rfl, rfl⟩, ?_⟩
 · (try dsimp only); exact ⟨Nat.zero_le _, rfl⟩
 rintro k hk
 obtain ⟨hk, h0⟩ : k ≤ l.length ∧ fe (perE l) k = 0 := hk
 (try dsimp only)
 by_cases hkl : k < l.length
 · obtain ⟨x, hx⟩ := getElem_some hkl
   have hsl : (x.sh.map encS).length = x.sh.length := List.length_map ..
   have hshl : x.sh.length ≤ 9223372036854775807 := hsh _ (List.mem_of_getElem? hx)
   have hE : perE l k = if x.num ≠ (k : Int) + 1 ∨ x.fr ≠ endOf (l.take k) ∨ x.to ≤ x.fr ∨ 20000000 < x.to then 11 else if (x.cl = true ∧ (l.take k).any opB = true) ∨ (x.cl = false ∧ 0 < x.sh.length) then 10 else if accB x.sh = false then 1 else 0 := by unfold perE; rw [at_of hx]
   by_cases c1 : x.num ≠ (k : Int) + 1 ∨ x.fr ≠ endOf (l.take k) ∨ x.to ≤ x.fr ∨ 20000000 < x.to
   · repeat' ((conv => whnf); first | (refine ⟨fun h => ?_, fun h => ?_⟩ <;> try (exfalso; first | omega | (revert h; decide) | exact h rfl | cases (show true = false from h) | cases (show false = true from h))) | (refine ⟨by omega, fun r hrr => ?_⟩; first | ((have hre : r = encP x := by (first | exact get_row hrr hx | fail)); subst hre)) | (refine ⟨_, rend_h, l.take k, (by show (l.take k).length ≤ _; rw [List.length_take]; omega), le_take, .inl rfl, rfl, ?_⟩; show norm (I (endOf (l.take k))) _) | (refine ⟨⟨by decide, by omega, by omega⟩, ?_⟩) | refine ⟨⟨by omega, by omega⟩, ?_⟩ | fail)
     all_goals (refine ⟨[], rfl, trivial, congrArg (CV.int .i64) ?_⟩; exact (fe_hit hkl h0 (hE.trans (if_pos c1)) (by decide)).symm)
   rw [if_neg c1] at hE
   have hany := any_step (p := opB) hx
   cases hcl : x.cl with
   | true =>
     have hopx : opB x = false := by unfold opB; rw [hcl]; rfl
     rw [hopx] at hany
     rw [hcl] at hE
     have haf := any_fidx (l := l.take k)
     by_cases hf : firstN (l.take k) = 0
     · rw [decide_eq_false (Decidable.not_not.2 hf)] at haf
       rw [if_neg (fun h => by rcases h with ⟨_, h⟩ | ⟨h, _⟩; (rw [haf] at h; cases h); cases h)] at hE
       cases hac : accB x.sh with
       | false =>
         repeat' ((conv => whnf); first | (refine ⟨fun h => ?_, fun h => ?_⟩ <;> try (exfalso; first | omega | (revert h; decide) | exact h rfl | exact absurd (hcl.symm.trans h) (by decide))) | (refine ⟨by omega, fun r hrr => ?_⟩; first | ((have hre : r = encP x := by (first | exact get_row hrr hx | fail)); subst hre)) | (refine ⟨_, rend_h, l.take k, (by show (l.take k).length ≤ _; rw [List.length_take]; omega), le_take, .inl rfl, rfl, ?_⟩; show norm (I (endOf (l.take k))) _) | (refine ⟨_, rfirst_h, l.take k, (by show (l.take k).length ≤ _; rw [List.length_take]; omega), le_take, .inl rfl, rfl, ?_⟩; show norm (I (firstN (l.take k))) _) | (refine ⟨_, racc_h, x.sh, (by show x.sh.length ≤ _; omega), leVs_of_eq rfl, .inl rfl, rfl, ?_⟩; show norm (B (accB x.sh)) _; rw [hac]) | (refine ⟨⟨by decide, by omega, by omega⟩, ?_⟩) | refine ⟨⟨by omega, by omega⟩, ?_⟩ | fail)
         all_goals (refine ⟨[], rfl, trivial, congrArg (CV.int .i64) ?_⟩; exact (fe_hit hkl h0 (hE.trans (if_pos hac)) (by decide)).symm)
       | true =>
         rw [if_neg (by rw [hac]; decide)] at hE
         repeat' ((conv => whnf); first | (refine ⟨fun h => ?_, fun h => ?_⟩ <;> try (exfalso; first | omega | (revert h; decide) | exact h rfl | exact absurd (hcl.symm.trans h) (by decide))) | (refine ⟨by omega, fun r hrr => ?_⟩; first | ((have hre : r = encP x := by (first | exact get_row hrr hx | fail)); subst hre)) | (refine ⟨_, rend_h, l.take k, (by show (l.take k).length ≤ _; rw [List.length_take]; omega), le_take, .inl rfl, rfl, ?_⟩; show norm (I (endOf (l.take k))) _) | (refine ⟨_, rfirst_h, l.take k, (by show (l.take k).length ≤ _; rw [List.length_take]; omega), le_take, .inl rfl, rfl, ?_⟩; show norm (I (firstN (l.take k))) _) | (refine ⟨_, racc_h, x.sh, (by show x.sh.length ≤ _; omega), leVs_of_eq rfl, .inl rfl, rfl, ?_⟩; show norm (B (accB x.sh)) _; rw [hac]) | (refine ⟨k + 1, ⟨?_, by (try dsimp only); omega⟩, [], ⟨⟨rfl, rfl⟩, ⟨rfl, rfl⟩, trivial⟩, trivial, rfl, rfl, rfl⟩; (try dsimp only); exact ⟨by omega, fe_go h0 hE⟩) | (refine ⟨⟨by decide, by omega, by omega⟩, ?_⟩) | refine ⟨⟨by omega, by omega⟩, ?_⟩ | fail)
     · rw [decide_eq_true hf] at haf
       repeat' ((conv => whnf); first | (refine ⟨fun h => ?_, fun h => ?_⟩ <;> try (exfalso; first | omega | (revert h; decide) | exact h rfl | exact absurd (hcl.symm.trans h) (by decide))) | (refine ⟨by omega, fun r hrr => ?_⟩; first | ((have hre : r = encP x := by (first | exact get_row hrr hx | fail)); subst hre)) | (refine ⟨_, rend_h, l.take k, (by show (l.take k).length ≤ _; rw [List.length_take]; omega), le_take, .inl rfl, rfl, ?_⟩; show norm (I (endOf (l.take k))) _) | (refine ⟨_, rfirst_h, l.take k, (by show (l.take k).length ≤ _; rw [List.length_take]; omega), le_take, .inl rfl, rfl, ?_⟩; show norm (I (firstN (l.take k))) _) | (refine ⟨⟨by decide, by omega, by omega⟩, ?_⟩) | refine ⟨⟨by omega, by omega⟩, ?_⟩ | fail)
       all_goals (refine ⟨[], rfl, trivial, congrArg (CV.int .i64) ?_⟩; exact (fe_hit hkl h0 (hE.trans (if_pos (.inl ⟨rfl, haf⟩))) (by decide)).symm)
   | false =>
     have hopx : opB x = true := by unfold opB; rw [hcl]; rfl
     rw [hopx] at hany
     rw [hcl] at hE
     by_cases hc : 0 < x.sh.length
     · skip
       all_goals
         repeat' ((conv => whnf); first | (refine ⟨fun h => ?_, fun h => ?_⟩ <;> try (exfalso; first | omega | (revert h; decide) | exact h rfl | exact absurd (hcl.symm.trans h) (by decide))) | (refine ⟨by omega, fun r hrr => ?_⟩; first | ((have hre : r = encP x := by (first | exact get_row hrr hx | fail)); subst hre)) | (refine ⟨_, rend_h, l.take k, (by show (l.take k).length ≤ _; rw [List.length_take]; omega), le_take, .inl rfl, rfl, ?_⟩; show norm (I (endOf (l.take k))) _) | (refine ⟨⟨by decide, by omega, by omega⟩, ?_⟩) | refine ⟨⟨by omega, by omega⟩, ?_⟩ | fail)
         all_goals (refine ⟨[], rfl, trivial, congrArg (CV.int .i64) ?_⟩; exact (fe_hit hkl h0 (hE.trans (if_pos (.inr ⟨rfl, hc⟩))) (by decide)).symm)
     · skip
       all_goals
         rw [if_neg (fun h => by rcases h with ⟨h, _⟩ | ⟨_, h⟩; (cases h); exact hc h)] at hE
         cases hac : accB x.sh with
         | false =>
           repeat' ((conv => whnf); first | (refine ⟨fun h => ?_, fun h => ?_⟩ <;> try (exfalso; first | omega | (revert h; decide) | exact h rfl | exact absurd (hcl.symm.trans h) (by decide))) | (refine ⟨by omega, fun r hrr => ?_⟩; first | ((have hre : r = encP x := by (first | exact get_row hrr hx | fail)); subst hre)) | (refine ⟨_, rend_h, l.take k, (by show (l.take k).length ≤ _; rw [List.length_take]; omega), le_take, .inl rfl, rfl, ?_⟩; show norm (I (endOf (l.take k))) _) | (refine ⟨_, racc_h, x.sh, (by show x.sh.length ≤ _; omega), leVs_of_eq rfl, .inl rfl, rfl, ?_⟩; show norm (B (accB x.sh)) _; rw [hac]) | (refine ⟨⟨by decide, by omega, by omega⟩, ?_⟩) | refine ⟨⟨by omega, by omega⟩, ?_⟩ | fail)
           all_goals (refine ⟨[], rfl, trivial, congrArg (CV.int .i64) ?_⟩; exact (fe_hit hkl h0 (hE.trans (if_pos hac)) (by decide)).symm)
         | true =>
           rw [if_neg (by rw [hac]; decide)] at hE
           repeat' ((conv => whnf); first | (refine ⟨fun h => ?_, fun h => ?_⟩ <;> try (exfalso; first | omega | (revert h; decide) | exact h rfl | exact absurd (hcl.symm.trans h) (by decide))) | (refine ⟨by omega, fun r hrr => ?_⟩; first | ((have hre : r = encP x := by (first | exact get_row hrr hx | fail)); subst hre)) | (refine ⟨_, rend_h, l.take k, (by show (l.take k).length ≤ _; rw [List.length_take]; omega), le_take, .inl rfl, rfl, ?_⟩; show norm (I (endOf (l.take k))) _) | (refine ⟨_, racc_h, x.sh, (by show x.sh.length ≤ _; omega), leVs_of_eq rfl, .inl rfl, rfl, ?_⟩; show norm (B (accB x.sh)) _; rw [hac]) | (refine ⟨k + 1, ⟨?_, by (try dsimp only); omega⟩, [], ⟨⟨rfl, rfl⟩, ⟨rfl, rfl⟩, trivial⟩, trivial, rfl, rfl, rfl⟩; (try dsimp only); exact ⟨by omega, fe_go h0 hE⟩) | (refine ⟨⟨by decide, by omega, by omega⟩, ?_⟩) | refine ⟨⟨by omega, by omega⟩, ?_⟩ | fail)
 · have hkn : k = l.length := by omega
   subst hkn
   repeat' ((conv => whnf); first | (refine ⟨fun h => ?_, fun h => ?_⟩ <;> try (exfalso; first | omega | (revert h; decide) | exact h rfl | cases (show true = false from h) | cases (show false = true from h))) | fail)
   all_goals (refine ⟨[], rfl, trivial, congrArg (CV.int .i64) ?_⟩; exact (h0).symm)
theorem rperF_h : Holds Tryz.prog 42 rperFS := holds_of mix Tryz.func42 rperFLow (fun _ => rfl) rperFV
end Go.Proofs.YtjpdaapjnpdiiaaGreat.P
