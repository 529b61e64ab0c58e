/- A part of the proof. -/
import Derived.Test.YtjpdaapjnpdiiaaGreatT5
import Derived.Test.YtjpdaapjnpdiiaaGreatS1
namespace Go.Proofs.YtjpdaapjnpdiiaaGreat
open Go.RowKit
def isT (t : Int) : Prop := 0 ≤ t ∧ t ≤ 20000000
instance (t : Int) : Decidable (isT t) := by unfold isT; infer_instance
def dayF (t : Int) : Int := if isT t then t.tdiv 86400 else -1
def secF (t : Int) : Int := if isT t then t.tmod 86400 else -1
structure Hours where
 days : Int
 frm : Int
 to : Int
def okH (h : Hours) : Prop := 1 ≤ h.days ∧ h.days ≤ 127 ∧ 0 ≤ h.frm ∧ h.frm < h.to ∧ h.to ≤ 86400
instance (h : Hours) : Decidable (okH h) := by unfold okH; infer_instance
def rightF (l : List Hours) : Bool := decide (l.length ≤ 16 ∧ ∀ h ∈ l, okH h)
def bitF (d w : Int) : Int := IntKind.wrap .i64 ((BitVec.ofInt 64 (d.fdiv (2 ^ Nat.min w.toNat 64)) &&& BitVec.ofInt 64 1).toNat)
def onF (d w : Int) : Prop := bitF d w = 1
instance (d w : Int) : Decidable (onF d w) := by unfold onF; infer_instance
def open1 (h : Hours) (t : Int) : Prop := onF h.days ((t / 86400) % 7) ∧ h.frm ≤ t % 86400 ∧ t % 86400 < h.to
instance (h : Hours) (t : Int) : Decidable (open1 h t) := by unfold open1; infer_instance
def inP (l : List Hours) (t : Int) : Prop := isT t ∧ ∃ h ∈ l, open1 h t
instance (l : List Hours) (t : Int) : Decidable (inP l t) := by unfold inP; infer_instance
theorem day_eq {t : Int} (h : isT t) : dayF t = t / 86400 := by
 rw [dayF, if_pos h, Int.tdiv_eq_ediv_of_nonneg h.1]
theorem sec_eq {t : Int} (h : isT t) : secF t = t % 86400 := by
 rw [secF, if_pos h, Int.tmod_eq_emod_of_nonneg h.1]
theorem all_step {α : Type} {p : α → Prop} {l : List α} {k : Nat} {x : α} (hx : l[k]? = some x) (h : ∀ y ∈ l.take k, p y) (h1 : p x) : ∀ y ∈ l.take (k + 1), p y := by
 rw [take_snoc _ _ _ hx]
 intro y hy
 rcases List.mem_append.1 hy with hy | hy
 · exact h y hy
 · simp at hy; subst hy; exact h1
theorem all_end {α : Type} {p : α → Prop} {l : List α} {k : Nat} (h : ∀ y ∈ l.take k, p y) (hk : ¬ k < l.length) : ∀ y ∈ l, p y := by rwa [take_end hk] at h
theorem right_bad {l : List Hours} {k : Nat} {x : Hours} (hx : l[k]? = some x) (h : ¬ okH x) : rightF l = false := decide_eq_false fun hc => h (hc.2 x (List.mem_of_getElem? hx))
theorem in_yes {l : List Hours} {k : Nat} {x : Hours} {t : Int} (ht : isT t) (hx : l[k]? = some x) (h : open1 x t) : inP l t := ⟨ht, x, List.mem_of_getElem? hx, h⟩
theorem in_no {l : List Hours} {t : Int} (h : ∀ y ∈ l, ¬ open1 y t) : ¬ inP l t := fun ⟨_, x, hx, hc⟩ => h x hx hc
abbrev encH (r : Hours) : List CV := [.int .i64 r.days, .int .i64 r.frm, .int .i64 r.to]
abbrev aH (r : Hours) : SV := .agg ((encH r).map .c)
def isTimeIr : IFn := ⟨9, [.tmp 2], (zq [ zl 2 .mov [zf]] (zq [ zm 3 0, zl 4 (.cmp .geq) [.tmp 3, zi 0], zm 5 4, zw 6 0 5 true, zh 7 (.cmp .leq) [.tmp 6, zi 20000000] 5 true, zl 8 .pick [.tmp 5, .tmp 7, zf], zm 2 8] .ret))⟩
theorem isTimeLow : lowF Tryz.prog {} Tryz.f98 = some isTimeIr := by kernel_rfl
def isTimeS : Spec := spec Int (fun t => [I t]) (fun _ => True) (fun t => B (decide (isT t)))
theorem isTimeV : fnV Tryz.prog isTimeIr isTimeS := by
 intro (x : Int) hx
 repeat' ((conv => whnf); first | (refine ⟨fun h => ?_, fun h => ?_⟩ <;> try (exfalso; omega)) | refine ⟨[], rfl, trivial, congrArg CV.bool ?_⟩ | refine ⟨[], rfl, trivial, congrArg (CV.int .i64) ?_⟩ | refine ⟨⟨by omega, by omega⟩, ?_⟩ | refine ⟨by omega, ?_⟩ | fail)
 all_goals (first | rfl | refine (decide_eq_true ?_).symm | refine (decide_eq_false ?_).symm)
 all_goals (unfold isT; omega)
theorem isTime_h : Holds Tryz.prog 98 isTimeS := holds_of mix Tryz.func98 isTimeLow (fun _ => rfl) isTimeV
def dayIr : IFn := ⟨8, [.tmp 2], (zq [ zl 2 .mov [zi 0]] (.seq (zq [ zm 3 0, zo 4 (.call 98) [3], zo 5 .not [4]] (.cond (.tmp 5) (zq [ zl 2 .mov [zi (-1)]] .ret) .skip)) (zq [ zm 6 0, zl 7 (.bin .quo .i64 false) [.tmp 6, zi 86400], zm 2 7] .ret)))⟩
theorem dayLow : lowF Tryz.prog {} Tryz.f100 = some dayIr := by kernel_rfl
def dayS : Spec := spec Int (fun t => [I t]) (fun _ => True) (fun t => I (dayF t))
theorem dayV : fnV Tryz.prog dayIr dayS := by
 intro (t : Int) hx
 show vc _ _ _ _ ⟨argEnv 0 [I t], [], 0⟩
 by_cases ht : isT t
 · have h1 : t.tdiv 86400 = t / 86400 := Int.tdiv_eq_ediv_of_nonneg ht.1
   have h2 : (t / 86400).tmod 7 = t / 86400 % 7 := Int.tmod_eq_emod_of_nonneg (by have := ht.1; omega)
   have g1 := ht.1
   have g2 := ht.2
   repeat' ((conv => whnf); first | (refine ⟨fun h => ?_, fun h => ?_⟩ <;> try (exfalso; first | omega | (revert h; decide) | exact h rfl)) | (refine ⟨_, isTime_h, t, trivial, leVs_of_eq rfl, .inl rfl, rfl, ?_⟩; show norm (B (decide (isT t))) _; rw [decide_eq_true ht]) | refine ⟨⟨by decide, by rw [h1]; omega, by rw [h1]; omega⟩, ?_⟩ | refine ⟨[], rfl, trivial, congrArg (CV.int .i64) ?_⟩ | fail)
   rw [dayF, if_pos ht]
 · repeat' ((conv => whnf); first | (refine ⟨fun h => ?_, fun h => ?_⟩ <;> try (exfalso; first | omega | (revert h; decide) | exact h rfl)) | (refine ⟨_, isTime_h, t, trivial, leVs_of_eq rfl, .inl rfl, rfl, ?_⟩; show norm (B (decide (isT t))) _; rw [decide_eq_false ht]) | refine ⟨[], rfl, trivial, congrArg (CV.int .i64) ?_⟩ | fail)
   rw [dayF, if_neg ht]
theorem day_h : Holds Tryz.prog 100 dayS := holds_of mix Tryz.func100 dayLow (fun _ => rfl) dayV
def secIr : IFn := ⟨8, [.tmp 2], (zq [ zl 2 .mov [zi 0]] (.seq (zq [ zm 3 0, zo 4 (.call 98) [3], zo 5 .not [4]] (.cond (.tmp 5) (zq [ zl 2 .mov [zi (-1)]] .ret) .skip)) (zq [ zm 6 0, zl 7 (.bin .rem .i64 false) [.tmp 6, zi 86400], zm 2 7] .ret)))⟩
theorem secLow : lowF Tryz.prog {} Tryz.f101 = some secIr := by kernel_rfl
def secS : Spec := spec Int (fun t => [I t]) (fun _ => True) (fun t => I (secF t))
theorem secV : fnV Tryz.prog secIr secS := by
 intro (t : Int) hx
 show vc _ _ _ _ ⟨argEnv 0 [I t], [], 0⟩
 by_cases ht : isT t
 · have h1 : t.tdiv 86400 = t / 86400 := Int.tdiv_eq_ediv_of_nonneg ht.1
   have h2 : (t / 86400).tmod 7 = t / 86400 % 7 := Int.tmod_eq_emod_of_nonneg (by have := ht.1; omega)
   have g1 := ht.1
   have g2 := ht.2
   repeat' ((conv => whnf); first | (refine ⟨fun h => ?_, fun h => ?_⟩ <;> try (exfalso; first | omega | (revert h; decide) | exact h rfl)) | (refine ⟨_, isTime_h, t, trivial, leVs_of_eq rfl, .inl rfl, rfl, ?_⟩; show norm (B (decide (isT t))) _; rw [decide_eq_true ht]) | refine ⟨by decide, ?_⟩ | refine ⟨[], rfl, trivial, congrArg (CV.int .i64) ?_⟩ | fail)
   rw [secF, if_pos ht]
 · repeat' ((conv => whnf); first | (refine ⟨fun h => ?_, fun h => ?_⟩ <;> try (exfalso; first | omega | (revert h; decide) | exact h rfl)) | (refine ⟨_, isTime_h, t, trivial, leVs_of_eq rfl, .inl rfl, rfl, ?_⟩; show norm (B (decide (isT t))) _; rw [decide_eq_false ht]) | refine ⟨[], rfl, trivial, congrArg (CV.int .i64) ?_⟩ | fail)
   rw [secF, if_neg ht]
theorem sec_h : Holds Tryz.prog 101 secS := holds_of mix Tryz.func101 secLow (fun _ => rfl) secV
theorem emod7 {d : Int} (h : 0 ≤ d) : d.tmod 7 = d % 7 := Int.tmod_eq_emod_of_nonneg h
def onIr : IFn := ⟨12, [.tmp 4], (zq [ zo 2 .box [0], zl 4 .mov [zf]] (zq [ zo 5 (.faddr 0) [2], zo 6 (.load 1 false) [5], zm 7 1, zl 8 (.bin .rem .i64 false) [.tmp 7, zi 7], zo 9 (.bin .shr .i64 false) [6, 8], zl 10 (.bin .and .i64 false) [.tmp 9, zi 1], zl 11 (.cmp .eql) [.tmp 10, zi 1], zm 4 11] .ret))⟩
theorem onLow : lowF Tryz.prog {} Tryz.f99 = some onIr := by kernel_rfl
def onS : Spec := spec (Hours × Int) (fun p => [aH p.1, I p.2]) (fun p => 0 ≤ p.2) (fun p => B (decide (onF p.1.days (p.2 % 7))))
theorem onV : fnV Tryz.prog onIr onS := by
 intro ⟨(h : Hours), (d : Int)⟩ (hd : 0 ≤ d)
 show vc _ _ _ _ ⟨argEnv 0 [aH h, I d], [], 0⟩
 have e := emod7 hd
 conv => whnf
 refine ⟨by decide, ?_⟩
 conv => whnf
 refine ⟨by rw [e]; omega, ?_⟩
 conv => whnf
 rw [e]
 refine ⟨fun hc => ?_, fun hc => ?_⟩
 · conv => whnf
   refine ⟨[], rfl, trivial, congrArg CV.bool ?_⟩
   exact (decide_eq_true (show onF h.days (d % 7) from hc)).symm
 · conv => whnf
   refine ⟨[], rfl, trivial, congrArg CV.bool ?_⟩
   exact (decide_eq_false (show ¬ onF h.days (d % 7) from hc)).symm
theorem on_h : Holds Tryz.prog 99 onS := holds_of mix Tryz.func99 onLow (fun _ => rfl) onV
def rrightIr : IFn := ⟨56, [.tmp 2], (zq [ zl 2 .mov [zf]] (.seq (zq [ zm 4 0, zo 5 .len [4], zl 6 (.cmp .gtr) [.tmp 5, zi 16]] (.cond (.tmp 6) (zq [ zl 2 .mov [zf]] .ret) .skip)) (.seq (zq [ zl 3 .mov [zi 0]] (.block 0 (.loop (.seq (zq [ zm 7 3, zm 8 0, zo 9 .len [8], zo 10 (.cmp .lss) [7, 9]] (.cond (.tmp 10) .skip (.exit 0))) (.seq (.block 1 (.seq (.ops [ zm 13 0, zm 14 3, zo 15 (.idx 3) [13, 14], zo 16 (.faddr 0) [15], zo 17 (.load 1 false) [16], zl 18 (.cmp .lss) [.tmp 17, zi 1], zm 19 18, zw 20 0 19 false, zw 21 3 19 false, zg 22 (.idx 3) [20, 21] 19 false, zg 23 (.faddr 0) [22] 19 false, zg 24 (.load 1 false)
 [23] 19 false, zh 25 (.cmp .gtr) [.tmp 24, zi 127] 19 false, zl 26 .pick [.tmp 19, zv, .tmp 25], zm 27 26, zw 28 0 27 false, zw 29 3 27 false, zg 30 (.idx 3) [28, 29] 27 false, zg 31 (.faddr 1) [30] 27 false, zg 32 (.load 1 false) [31] 27 false, zh 33 (.cmp .lss) [.tmp 32, zi 0] 27 false, zl 34 .pick [.tmp 27, zv, .tmp 33], zm 35 34, zw 36 0 35 false, zw 37 3 35 false, zg 38 (.idx 3) [36, 37] 35 false, zg 39 (.faddr 1) [38] 35 false, zg 40 (.load 1 false) [39] 35 false, zw 41 0 35 false, zw 42 3 35 false, zg 43 (.idx 3) [41, 42] 35 false, zg 44 (.faddr 2) [43] 35 false, zg 45 (.load 1 false)
 [44] 35 false, zg 46 (.cmp .geq) [40, 45] 35 false, zl 47 .pick [.tmp 35, zv, .tmp 46], zm 48 47, zw 49 0 48 false, zw 50 3 48 false, zg 51 (.idx 3) [49, 50] 48 false, zg 52 (.faddr 2) [51] 48 false, zg 53 (.load 1 false) [52] 48 false, zh 54 (.cmp .gtr) [.tmp 53, zi 86400] 48 false, zl 55 .pick [.tmp 48, zv, .tmp 54]] true) (.cond (.tmp 55) (zq [ zl 2 .mov [zf]] .ret) .skip))) (zp [ zm 11 3, zl 12 (.bin .add .i64 false) [.tmp 11, zi 1], zm 3 12])))))) (zq [ zl 2 .mov [zv]] .ret))))⟩
theorem rrightLow : lowF Tryz.prog {} Tryz.f55 = some rrightIr := by kernel_rfl
def rrightS : Spec := spec (List Hours) (fun l => [L 3 (l.map encH)]) (fun l => l.length ≤ 9223372036854775807) (fun l => B (rightF l))
theorem rrightV : fnV Tryz.prog rrightIr rrightS := by
 intro (l : List Hours) hx
 show vc _ _ _ _ ⟨argEnv 0 [L 3 (l.map encH)], [], 0⟩
 have hl : (l.map encH).length = l.length := List.length_map ..
 replace hx : l.length ≤ 9223372036854775807 := hx
 conv => whnf
 refine ⟨fun h => ?_, fun h => ?_⟩
 · conv => whnf
   refine ⟨[], rfl, trivial, congrArg CV.bool ?_⟩
   exact (decide_eq_false (fun hc => by omega)).symm
 conv => whnf
 refine ⟨Nat, fun xq => ⟨[(0, L 3 (l.map encH)), (3, I xq)], [], 0⟩, fun xq => xq ≤ l.length ∧ ∀ y ∈ l.take xq, okH y, fun xq => l.length - xq, ⟨0, ?_, [], ⟨⟨rfl, rfl⟩, ⟨rfl, rfl⟩, trivial⟩, trivial, rfl, rfl, rfl⟩, ?_⟩
 · (try dsimp only); exact ⟨Nat.zero_le _, by simp⟩
 rintro k hk
 obtain ⟨hk, hr⟩ : k ≤ l.length ∧ ∀ y ∈ l.take k, okH y := hk
 (try dsimp only)
 by_cases hkl : k < l.length
 · obtain ⟨x, hx⟩ := getElem_some hkl
   repeat' ((conv => whnf); first | (refine ⟨k + 1, ⟨?_, by (try dsimp only); omega⟩, [], ⟨⟨rfl, rfl⟩, ⟨rfl, rfl⟩, trivial⟩, trivial, rfl, rfl, rfl⟩; (try dsimp only); exact ⟨by omega, all_step hx hr (by unfold okH; omega)⟩) | (refine ⟨fun h => ?_, fun h => ?_⟩ <;> try (exfalso; first | omega | (revert h; decide) | exact h rfl)) | (refine ⟨by omega, fun r hrr => ?_⟩; obtain rfl := get_row hrr hx) | refine ⟨⟨by omega, by omega⟩, ?_⟩ | refine ⟨[], rfl, trivial, congrArg CV.bool ?_⟩ | fail)
   all_goals exact (right_bad hx (by unfold okH; omega)).symm
 · have ha := all_end hr hkl
   repeat' ((conv => whnf); first | (refine ⟨fun h => ?_, fun h => ?_⟩ <;> try (exfalso; first | omega | (revert h; decide) | exact h rfl)) | refine ⟨⟨by omega, by omega⟩, ?_⟩ | refine ⟨[], rfl, trivial, congrArg CV.bool ?_⟩ | fail)
   all_goals first | exact (decide_eq_true ⟨by omega, ha⟩).symm | exact (decide_eq_false (fun hc => by omega)).symm
theorem rright_h : Holds Tryz.prog 55 rrightS := holds_of mix Tryz.func55 rrightLow (fun _ => rfl) rrightV
def innIr : IFn := ⟨35, [.tmp 4], (zq [ zl 4 .mov [zf]] (.seq (zq [ zm 7 1, zo 8 (.call 98) [7], zo 9 .not [8]] (.cond (.tmp 9) (zq [ zl 4 .mov [zf]] .ret) .skip)) (.seq (zq [ zm 10 0, zo 11 .len [10], zl 12 .mov [zi 0]] (.block 0 (.loop (zq [ zo 13 (.cmp .lss) [12, 11]] (.seq (.cond (.tmp 13) .skip (.exit 0)) (.seq (.block 1 (zq [ zo 14 (.idx 3) [10, 12], zo 15 (.load 3 true) [14], zo 6 (.alloc [.int .i64 0, .int .i64 0, .int .i64 0]) [], zn (.store 3) [6, 15]] (.seq (.ops [ zo 16 (.load 3 true) [6], zm 17 1, zo 18 (.call 100) [17], zo 19 (.call 99) [16, 18], zm 20 19, zg 21 (.faddr 1) [6] 20 true, zg 22 (.load
 1 false) [21] 20 true, zw 23 1 20 true, zg 24 (.call 101) [23] 20 true, zg 25 (.cmp .leq) [22, 24] 20 true, zl 26 .pick [.tmp 20, .tmp 25, zf], zm 27 26, zw 28 1 27 true, zg 29 (.call 101) [28] 27 true, zg 30 (.faddr 2) [6] 27 true, zg 31 (.load 1 false) [30] 27 true, zg 32 (.cmp .lss) [29, 31] 27 true, zl 33 .pick [.tmp 27, .tmp 32, zf]] true) (.cond (.tmp 33) (zq [ zl 4 .mov [zv]] .ret) .skip)))) (zp [ zl 34 (.bin .add .i64 false) [.tmp 12, zi 1], zm 12 34]))))))) (zq [ zl 4 .mov [zf]] .ret))))⟩
theorem innLow : lowF Tryz.prog {} Tryz.f82 = some innIr := by kernel_rfl
def innS : Spec := spec (List Hours × Int) (fun p => [L 3 (p.1.map encH), I p.2]) (fun p => p.1.length ≤ 9223372036854775807) (fun p => B (decide (inP p.1 p.2)))
theorem innV : fnV Tryz.prog innIr innS := by
 intro ⟨(l : List Hours), (t : Int)⟩ hx
 replace hx : l.length ≤ 9223372036854775807 := hx
 show vc _ _ _ _ ⟨argEnv 0 [L 3 (l.map encH), I t], [], 0⟩
 have hl : (l.map encH).length = l.length := List.length_map ..
 by_cases ht : isT t
 · have g1 := ht.1
   have g2 := ht.2
   repeat' ((conv => whnf); first | (refine ⟨fun h => ?_, fun h => ?_⟩ <;> try (exfalso; first | omega | (revert h; decide) | exact h rfl)) | (refine ⟨_, isTime_h, t, trivial, leVs_of_eq rfl, .inl rfl, rfl, ?_⟩; show norm (B (decide (isT t))) _; rw [decide_eq_true ht]) | fail)
   conv => whnf
   refine ⟨Nat, fun xq => ⟨[(1, I t), (10, L 3 (l.map encH)), (11, I (l.map encH).length), (12, I xq)], [], 0⟩, fun xq => xq ≤ l.length ∧ ∀ y ∈ l.take xq, ¬ open1 y t, fun xq => l.length - xq, ⟨0, ?_, [], ⟨⟨rfl, rfl⟩, ⟨rfl, rfl⟩, ⟨rfl, rfl⟩, ⟨rfl, rfl⟩, trivial⟩, trivial, rfl, rfl, rfl⟩, ?_⟩
   · (try dsimp only); exact ⟨Nat.zero_le _, by simp⟩
   rintro k hk
   obtain ⟨hk, hr⟩ : k ≤ l.length ∧ ∀ y ∈ l.take k, ¬ open1 y t := hk
   (try dsimp only)
   by_cases hkl : k < l.length
   · obtain ⟨x, hx⟩ := getElem_some hkl
     by_cases hon : onF x.days (t / 86400 % 7)
     · repeat' ((conv => whnf); first | (refine ⟨k + 1, ⟨?_, by (try dsimp only); omega⟩, [], ⟨⟨rfl, rfl⟩, ⟨rfl, rfl⟩, ⟨rfl, rfl⟩, ⟨rfl, rfl⟩, trivial⟩, trivial, rfl, rfl, rfl⟩; (try dsimp only); exact ⟨by omega, all_step hx hr (fun hc => by have := hc.2; omega)⟩) | (refine ⟨fun h => ?_, fun h => ?_⟩ <;> try (exfalso; first | omega | (revert h; decide) | exact h rfl)) | (refine ⟨by omega, fun r hrr => ?_⟩; obtain rfl := get_row hrr hx) | (refine ⟨_, day_h, t, trivial, leVs_of_eq rfl, .inl rfl, rfl, ?_⟩; show norm (I (dayF t)) _; rw [day_eq ht]) | (refine ⟨_, on_h, (x, t / 86400), (by show _ ≤ _; omega), leVs_of_eq rfl, .inl rfl, rfl, ?_⟩; show norm (B (decide (onF x.days (t / 86400 % 7)))) _; rw [decide_eq_true hon]) | (refine ⟨_, sec_h, t, trivial, leVs_of_eq rfl, .inl rfl, rfl, ?_⟩; show norm (I (secF t)) _; rw [sec_eq ht]) | refine ⟨⟨by omega, by omega⟩, ?_⟩ | refine ⟨[], rfl, trivial, congrArg CV.bool ?_⟩ | fail)
       all_goals exact (decide_eq_true (in_yes ht hx ⟨hon, by omega, by omega⟩)).symm
     · repeat' ((conv => whnf); first | (refine ⟨k + 1, ⟨?_, by (try dsimp only); omega⟩, [], ⟨⟨rfl, rfl⟩, ⟨rfl, rfl⟩, ⟨rfl, rfl⟩, ⟨rfl, rfl⟩, trivial⟩, trivial, rfl, rfl, rfl⟩; (try dsimp only); exact ⟨by omega, all_step hx hr (fun hc => hon hc.1)⟩) | (refine ⟨fun h => ?_, fun h => ?_⟩ <;> try (exfalso; first | omega | (revert h; decide) | exact h rfl)) | (refine ⟨by omega, fun r hrr => ?_⟩; obtain rfl := get_row hrr hx) | (refine ⟨_, day_h, t, trivial, leVs_of_eq rfl, .inl rfl, rfl, ?_⟩; show norm (I (dayF t)) _; rw [day_eq ht]) | (refine ⟨_, on_h, (x, t / 86400), (by show _ ≤ _; omega), leVs_of_eq rfl, .inl rfl, rfl, ?_⟩; show norm (B (decide (onF x.days (t / 86400 % 7)))) _; rw [decide_eq_false hon]) | (refine ⟨_, sec_h, t, trivial, leVs_of_eq rfl, .inl rfl, rfl, ?_⟩; show norm (I (secF t)) _; rw [sec_eq ht]) | refine ⟨⟨by omega, by omega⟩, ?_⟩ | refine ⟨[], rfl, trivial, congrArg CV.bool ?_⟩ | fail)
   · have ha := all_end hr hkl
     repeat' ((conv => whnf); first | (refine ⟨fun h => ?_, fun h => ?_⟩ <;> try (exfalso; first | omega | (revert h; decide) | exact h rfl)) | refine ⟨[], rfl, trivial, congrArg CV.bool ?_⟩ | fail)
     all_goals exact (decide_eq_false (in_no ha)).symm
 · repeat' ((conv => whnf); first | (refine ⟨fun h => ?_, fun h => ?_⟩ <;> try (exfalso; first | omega | (revert h; decide) | exact h rfl)) | (refine ⟨_, isTime_h, t, trivial, leVs_of_eq rfl, .inl rfl, rfl, ?_⟩; show norm (B (decide (isT t))) _; rw [decide_eq_false ht]) | refine ⟨[], rfl, trivial, congrArg CV.bool ?_⟩ | fail)
   exact (decide_eq_false fun hc => ht hc.1).symm
theorem inn_h : Holds Tryz.prog 82 innS := holds_of mix Tryz.func82 innLow (fun _ => rfl) innV
structure Rate where
 l : Int
 p : Int
 x : Int
 peak : List Hours
structure Tariff where
 frm : Int
 rates : List Rate
structure Ride where
 gate : Int
 seq : Int
 serial : Int
 counter : Int
 product : Int
 lift : Int
 time : Int
def rate0 : Rate := ⟨0, 0, 0, []⟩
def tar0 : Tariff := ⟨0, []⟩
abbrev encR (r : Rate) : List CV := [.int .i64 r.l, .int .i64 r.p, .int .i64 r.x, .sl 3 (r.peak.map encH)]
abbrev encT (t : Tariff) : List CV := [.int .i64 t.frm, .sl 4 (t.rates.map encR)]
abbrev encD (r : Ride) : List CV := [.int .i64 r.gate, .int .i64 r.seq, .int .i64 r.serial, .int .i64 r.counter, .int .i64 r.product, .int .i64 r.lift, .int .i64 r.time]
abbrev aD (r : Ride) : SV := .agg ((encD r).map .c)
def rateP (x : Rate) : Prop := (1 ≤ x.l ∧ x.l ≤ 9999) ∧ (1 ≤ x.p ∧ x.p ≤ 10000) ∧ 0 ≤ x.x ∧ x.x ≤ 1000
instance (x : Rate) : Decidable (rateP x) := by unfold rateP; infer_instance
def twiceB (l : List Rate) (k : Nat) (n : Int) : Bool := (l.take k).any fun y => decide (y.l = n)
def rateE (l : List Rate) (k : Nat) : Int := if ¬ rateP (at_ l rate0 k) then 2 else if twiceB l k (at_ l rate0 k).l = true then 7 else if rightF (at_ l rate0 k).peak = false then 1 else 0
def tarE (l : List Tariff) (k : Nat) : Int := if (at_ l tar0 k).frm < 0 ∨ 20000000 < (at_ l tar0 k).frm ∨ (k = 0 ∧ (at_ l tar0 k).frm ≠ 0) then 2 else if 0 < k ∧ (at_ l tar0 k).frm ≤ (at_ l tar0 (k - 1)).frm then 11 else if 32 < (at_ l tar0 k).rates.length then 4 else fe (rateE (at_ l tar0 k).rates) (at_ l tar0 k).rates.length
def tarsE (l : List Tariff) : Int := if l.length = 0 then 8 else if 16 < l.length then 4 else fe (tarE l) l.length
def okT (l : List Tariff) : Prop := l.length ≤ 9223372036854775807 ∧ ∀ t ∈ l, t.rates.length ≤ 9223372036854775807 ∧ ∀ y ∈ t.rates, y.peak.length ≤ 9223372036854775807
theorem twice_yes {l : List Rate} {k i : Nat} {n : Int} {y : Rate} (hi : i < k) (hy : l[i]? = some y) (h : y.l = n) : twiceB l k n = true :=
 List.any_eq_true.2 ⟨y, List.mem_of_getElem? (i := i) (by rw [List.getElem?_take, if_pos hi]; exact hy), decide_eq_true h⟩
theorem twice_no {l : List Rate} {k : Nat} {n : Int} (h : ∀ y ∈ l.take k, decide (y.l = n) = false) : twiceB l k n = false := by
 cases hb : twiceB l k n with
 | false => rfl
 | true =>
   obtain ⟨y, hy, e⟩ := List.any_eq_true.1 hb
   rw [h y hy] at e; cases e
def Rates (l : List Tariff) : Prop := ∀ t ∈ l, t.rates.length ≤ 32 ∧ ∀ y ∈ t.rates, (0 ≤ y.p ∧ y.p ≤ 10000) ∧ (0 ≤ y.x ∧ y.x ≤ 1000) ∧ y.peak.length ≤ 16
theorem tarsE_rates {l : List Tariff} (h : tarsE l = 0) : l.length ≤ 16 ∧ Rates l := by
 unfold tarsE at h
 split at h
 · omega
 split at h
 · omega
 refine ⟨by omega, fun t ht => ?_⟩
 obtain ⟨k, hk⟩ := List.getElem?_of_mem ht
 have hE := fe_all h k (List.getElem?_eq_some_iff.1 hk).1
 unfold tarE at hE
 rw [at_of hk] at hE
 split at hE
 · omega
 split at hE
 · omega
 split at hE
 · omega
 rename_i h32
 refine ⟨by omega, fun y hy => ?_⟩
 obtain ⟨j, hj⟩ := List.getElem?_of_mem hy
 have hR := fe_all hE j (List.getElem?_eq_some_iff.1 hj).1
 unfold rateE at hR
 rw [at_of hj] at hR
 split at hR
 · omega
 rename_i h1
 split at hR
 · omega
 split at hR
 · omega
 rename_i h3
 have h1 := Decidable.not_not.1 h1
 unfold rateP at h1
 have h4 : rightF y.peak = true := by cases hb : rightF y.peak with
   | true => rfl
   | false => exact absurd hb h3
 exact ⟨by omega, by omega, (of_decide_eq_true h4).1⟩
def lastB (p : Nat → Bool) : Nat → Int
 | 0 => -1
 | n + 1 => if p n = true then (n : Int) else lastB p n
def inForce (l : List Tariff) (t : Int) (k : Nat) : Bool := decide ((at_ l tar0 k).frm ≤ t)
def tarAt (l : List Tariff) (t : Int) : Nat → Option Tariff
 | 0 => none
 | n + 1 => if inForce l t n = true then some (at_ l tar0 n) else tarAt l t n
theorem lastB_yes {p : Nat → Bool} {n : Nat} (h : p n = true) : lastB p (n + 1) = n := if_pos h
theorem lastB_no {p : Nat → Bool} {n : Nat} (h : p n = false) : lastB p (n + 1) = lastB p n := if_neg (by simp [h])
theorem tarAt_yes {l : List Tariff} {t : Int} {n : Nat} (h : inForce l t n = true) : tarAt l t (n + 1) = some (at_ l tar0 n) := if_pos h
theorem tarAt_no {l : List Tariff} {t : Int} {n : Nat} (h : inForce l t n = false) : tarAt l t (n + 1) = tarAt l t n := if_neg (by simp [h])
theorem last_at (l : List Tariff) (t : Int) : ∀ n : Nat, (lastB (inForce l t) n = -1 ∧ tarAt l t n = none) ∨ ∃ i : Nat, (i < n ∧ lastB (inForce l t) n = i) ∧ tarAt l t n = some (at_ l tar0 i)
 | 0 => .inl ⟨rfl, rfl⟩
 | n + 1 => by
   cases h : inForce l t n with
   | true => exact .inr ⟨n, ⟨by omega, lastB_yes h⟩, tarAt_yes h⟩
   | false =>
     rw [lastB_no h, tarAt_no h]
     rcases last_at l t n with h | ⟨i, ⟨h1, h2⟩, h3⟩
     · exact .inl h
     · exact .inr ⟨i, ⟨by omega, h2⟩, h3⟩
def ptsR (l : List Rate) (lift t : Int) : Int := match firstOf (fun y => decide (y.l = lift)) l with
 | none => 0
 | some y => if inP y.peak t then y.p + y.p * y.x / 1000 else y.p
def ptsF (l : List Tariff) (r : Ride) : Int := match tarAt l r.time l.length with
 | none => 0
 | some t => ptsR t.rates r.lift r.time
theorem pts_none {l : List Rate} {lift t : Int} (h : ∀ y ∈ l, decide (y.l = lift) = false) : ptsR l lift t = 0 := by unfold ptsR; rw [first_none h]
theorem pts_some {l : List Rate} {lift t : Int} {k : Nat} {y : Rate} (hy : l[k]? = some y) (hn : ∀ z ∈ l.take k, decide (z.l = lift) = false) (h : y.l = lift) : ptsR l lift t = if inP y.peak t then y.p + y.p * y.x / 1000 else y.p := by unfold ptsR; rw [first_at hy hn (decide_eq_true h)]
end Go.Proofs.YtjpdaapjnpdiiaaGreat
