/- A part of the proof. -/
import Derived.Test.YtjpdaapjnpdiiaaGreatQP1
import Derived.Test.YtjpdaapjnpdiiaaGreatChecked
namespace Go.Proofs.YtjpdaapjnpdiiaaGreat.P
open Go.RowKit
theorem mix : Tryz.prog.follows .mixedOrders = true := by kernel_rfl
abbrev encS (r : Share) : List CV := [.int .i64 r.o, .int .i64 r.a]
abbrev aS (r : Share) : SV := .agg ((encS r).map .c)
abbrev encT (r : Tfer) : List CV := [.int .i64 r.f, .int .i64 r.t, .int .i64 r.a]
abbrev aT (r : Tfer) : SV := .agg ((encT r).map .c)
def operIr : IFn := ⟨9, [.tmp 2], (zq [ zl 2 .mov [zf]] (zq [ zm 3 0, zl 4 (.cmp .geq) [.tmp 3, zi 1], zm 5 4, zw 6 0 5 true, zh 7 (.cmp .leq) [.tmp 6, zi 8] 5 true, zl 8 .pick [.tmp 5, .tmp 7, zf], zm 2 8] .ret))⟩
theorem operLow : lowF Tryz.prog {} Tryz.f113 = some operIr := by kernel_rfl
def operS : Spec := spec Int (fun n => [I n]) (fun _ => True) (fun n => B (decide (okO n)))
theorem operV : fnV Tryz.prog operIr operS := by
 intro (x : Int) hx
 repeat' ((conv => whnf); first | (refine ⟨fun h => ?_, fun h => ?_⟩ <;> try (exfalso; omega)) | refine ⟨[], rfl, trivial, congrArg CV.bool ?_⟩ | refine ⟨[], rfl, trivial, congrArg (CV.int .i64) ?_⟩ | refine ⟨⟨by omega, by omega⟩, ?_⟩ | refine ⟨by omega, ?_⟩ | fail)
 all_goals (first | rfl | refine (decide_eq_true ?_).symm | refine (decide_eq_false ?_).symm)
 all_goals (unfold okO; omega)
theorem oper_h : Holds Tryz.prog 113 operS := holds_of mix Tryz.func113 operLow (fun _ => rfl) operV
def rightIr : IFn := ⟨50, [.tmp 2], (zq [ zl 2 .mov [zi 0]] (.seq (zq [ zm 6 0, zo 7 .len [6], zl 8 (.cmp .gtr) [.tmp 7, zi 8]] (.cond (.tmp 8) (zq [ zl 2 .mov [zi 4]] .ret) .skip)) (zq [ zl 3 .mov [zi 0]] (.seq (zq [ zm 9 0, zo 10 .len [9], zl 11 .mov [zi 0]] (.block 0 (.loop (zq [ zo 12 (.cmp .lss) [11, 10]] (.seq (.cond (.tmp 12) .skip (.exit 0)) (.seq (.block 1 (zq [ zm 13 11, zo 14 (.idx 2) [9, 11], zo 15 (.load 2 true) [14], zo 5 (.alloc [.int .i64 0, .int .i64 0]) [], zm 4 13, zn (.store 2) [5, 15]] (.seq (zq [ zo 16 (.faddr 0) [5], zo 17 (.load 1 false) [16], zo 18 (.call 113) [17], zo 19 .not [18], zm 20
 19, zg 21 (.faddr 1) [5] 20 false, zg 22 (.load 1 false) [21] 20 false, zh 23 (.cmp .lss) [.tmp 22, zi (-137438953472)] 20 false, zl 24 .pick [.tmp 20, zv, .tmp 23], zm 25 24, zg 26 (.faddr 1) [5] 25 false, zg 27 (.load 1 false) [26] 25 false, zh 28 (.cmp .gtr) [.tmp 27, zi 137438953472] 25 false, zl 29 .pick [.tmp 25, zv, .tmp 28]] (.cond (.tmp 29) (zq [ zl 2 .mov [zi 2]] .ret) .skip)) (.seq (.seq (.ops [ zm 30 4, zl 31 (.cmp .gtr) [.tmp 30, zi 0], zm 32 31, zg 33 (.faddr 0) [5] 32 true, zg 34 (.load 1 false) [33] 32 true, zw 35 0 32 true, zw 36 4 32 true, zh 37 (.bin .sub .i64 false) [.tmp
 36, zi 1] 32 true, zg 38 (.idx 2) [35, 37] 32 true, zg 39 (.faddr 0) [38] 32 true, zg 40 (.load 1 false) [39] 32 true, zg 41 (.cmp .leq) [34, 40] 32 true, zl 42 .pick [.tmp 32, .tmp 41, zf]] true) (.cond (.tmp 42) (zq [ zl 2 .mov [zi 11]] .ret) .skip)) (zp [ zm 43 3, zo 44 (.faddr 1) [5], zo 45 (.load 1 false) [44], zo 46 (.bin .add .i64 false) [43, 45], zm 3 46]))))) (zp [ zl 47 (.bin .add .i64 false) [.tmp 11, zi 1], zm 11 47]))))))) (.seq (zq [ zm 48 3, zl 49 (.cmp .neq) [.tmp 48, zi 0]] (.cond (.tmp 49) (zq [ zl 2 .mov [zi 1]] .ret) .skip)) (zq [ zl 2 .mov [zi 0]] .ret))))))⟩
theorem rightLow : lowF Tryz.prog {} Tryz.f86 = some rightIr := by kernel_rfl
def rightS : Spec := spec (List Share) (fun l => [L 2 (l.map encS)]) (fun l => l.length ≤ 9223372036854775807) (fun l => I (rightF l))
theorem rightV : fnV Tryz.prog rightIr rightS := by
 intro (l : List Share) hx
 replace hx : l.length ≤ 9223372036854775807 := hx
 show vc _ _ _ _ ⟨argEnv 0 [L 2 (l.map encS)], [], 0⟩
 have hl : (l.map encS).length = l.length := List.length_map ..
 conv => whnf
 refine ⟨fun h => ?_, fun h => ?_⟩
 · conv => whnf
   refine ⟨[], rfl, trivial, congrArg (CV.int .i64) ?_⟩
   exact (if_pos (show 8 < l.length by omega)).symm
 have h8 : ¬ 8 < l.length := by omega
 conv => whnf
 refine ⟨Nat × Int, fun xq => ⟨[(0, L 2 (l.map encS)), (3, I xq.2), (9, L 2 (l.map encS)), (10, I (l.map encS).length), (11, I xq.1)], [], 0⟩, fun xq => xq.1 ≤ l.length ∧ goE (prevO l xq.1) (l.drop xq.1) = goE 0 l ∧ (-137438953472 * xq.1 ≤ xq.2 ∧ xq.2 ≤ 137438953472 * xq.1) ∧ xq.2 = sumA (l.take xq.1), fun xq => l.length - xq.1, ⟨(0, 0), ?_, [], ⟨⟨rfl, rfl⟩, ⟨rfl, rfl⟩, ⟨rfl, rfl⟩, ⟨rfl, rfl⟩, ⟨rfl, rfl⟩, trivial⟩, trivial, rfl, rfl, rfl⟩, ?_⟩
 · (try dsimp only); exact ⟨Nat.zero_le _, rfl, by omega, rfl⟩
 rintro ⟨k, s⟩ hk
 obtain ⟨hk, hg, ⟨hs1, hs2⟩, hse⟩ : k ≤ l.length ∧ goE (prevO l k) (l.drop k) = goE 0 l ∧ (-137438953472 * k ≤ s ∧ s ≤ 137438953472 * k) ∧ s = sumA (l.take k) := hk
 (try dsimp only)
 by_cases hkl : k < l.length
 · obtain ⟨x, hx⟩ := getElem_some hkl
   have hst := goE_step hx
   have hsn := sumA_snoc hx
   by_cases hb : okS x
   · rw [if_pos hb] at hst
     have hb' := hb
     unfold okS at hb'
     have ho : okO x.o := hb.1
     by_cases hk0 : k = 0
     · subst hk0
       have hp : prevO l 0 = 0 := rfl
       rw [if_neg (by omega)] at hst
       repeat' ((conv => whnf); first | (refine ⟨(1, _), ⟨?_, by (try dsimp only); omega⟩, [], ⟨⟨rfl, rfl⟩, ⟨rfl, rfl⟩, ⟨rfl, rfl⟩, ⟨rfl, rfl⟩, ⟨rfl, rfl⟩, trivial⟩, trivial, rfl, rfl, rfl⟩; (try dsimp only); exact ⟨by omega, by rw [← hg, hst], by omega, by rw [hsn, ← hse]⟩) | (refine ⟨fun h => ?_, fun h => ?_⟩ <;> try (exfalso; first | omega | (revert h; decide) | exact h rfl)) | (refine ⟨by omega, fun r hrr => ?_⟩; obtain rfl := get_row hrr hx) | (refine ⟨_, oper_h, x.o, trivial, leVs_of_eq rfl, .inl rfl, rfl, ?_⟩; show norm (B (decide (okO x.o))) _; rw [decide_eq_true ho]) | refine ⟨⟨by omega, by omega⟩, ?_⟩ | fail)
     · obtain ⟨y, hy⟩ := getElem_some (show k - 1 < l.length by omega)
       have hp : prevO l k = y.o := by
         obtain ⟨j, rfl⟩ : ∃ j, k = j + 1 := ⟨k - 1, by omega⟩
         have hy' : l[j]? = some y := hy
         simp [prevO, hy']
       by_cases hle : x.o ≤ y.o
       · rw [if_pos (by omega)] at hst
         repeat' ((conv => whnf); first | (refine ⟨fun h => ?_, fun h => ?_⟩ <;> try (exfalso; first | omega | (revert h; decide) | exact h rfl)) | (refine ⟨by omega, fun r hrr => ?_⟩; obtain rfl := get_row hrr hx) | (refine ⟨by omega, fun r hrr => ?_⟩; obtain rfl := get_row1 hrr (by omega) hy) | (refine ⟨_, oper_h, x.o, trivial, leVs_of_eq rfl, .inl rfl, rfl, ?_⟩; show norm (B (decide (okO x.o))) _; rw [decide_eq_true ho]) | refine ⟨⟨by omega, by omega⟩, ?_⟩ | refine ⟨[], rfl, trivial, congrArg (CV.int .i64) ?_⟩ | fail)
         all_goals (unfold rightF; rw [if_neg h8, ← hg, hst]; rfl)
       · rw [if_neg (by omega)] at hst
         repeat' ((conv => whnf); first | (refine ⟨(k + 1, _), ⟨?_, by (try dsimp only); omega⟩, [], ⟨⟨rfl, rfl⟩, ⟨rfl, rfl⟩, ⟨rfl, rfl⟩, ⟨rfl, rfl⟩, ⟨rfl, rfl⟩, trivial⟩, trivial, rfl, rfl, rfl⟩; (try dsimp only); exact ⟨by omega, by rw [← hg, hst], by omega, by rw [hsn, ← hse]⟩) | (refine ⟨fun h => ?_, fun h => ?_⟩ <;> try (exfalso; first | omega | (revert h; decide) | exact h rfl)) | (refine ⟨by omega, fun r hrr => ?_⟩; obtain rfl := get_row hrr hx) | (refine ⟨by omega, fun r hrr => ?_⟩; obtain rfl := get_row1 hrr (by omega) hy) | (refine ⟨_, oper_h, x.o, trivial, leVs_of_eq rfl, .inl rfl, rfl, ?_⟩; show norm (B (decide (okO x.o))) _; rw [decide_eq_true ho]) | refine ⟨⟨by omega, by omega⟩, ?_⟩ | fail)
   · rw [if_neg hb] at hst
     have hb' := hb
     unfold okS at hb'
     by_cases ho : okO x.o
     · have ho' := ho
       unfold okO at ho'
       repeat' ((conv => whnf); first | (refine ⟨fun h => ?_, fun h => ?_⟩ <;> try (exfalso; first | omega | (revert h; decide) | exact h rfl)) | (refine ⟨by omega, fun r hrr => ?_⟩; obtain rfl := get_row hrr hx) | (refine ⟨_, oper_h, x.o, trivial, leVs_of_eq rfl, .inl rfl, rfl, ?_⟩; show norm (B (decide (okO x.o))) _; rw [decide_eq_true ho]) | refine ⟨⟨by omega, by omega⟩, ?_⟩ | refine ⟨[], rfl, trivial, congrArg (CV.int .i64) ?_⟩ | fail)
       all_goals (unfold rightF; rw [if_neg h8, ← hg, hst]; rfl)
     · have ho' := ho
       unfold okO at ho'
       repeat' ((conv => whnf); first | (refine ⟨fun h => ?_, fun h => ?_⟩ <;> try (exfalso; first | omega | (revert h; decide) | exact h rfl)) | (refine ⟨by omega, fun r hrr => ?_⟩; obtain rfl := get_row hrr hx) | (refine ⟨_, oper_h, x.o, trivial, leVs_of_eq rfl, .inl rfl, rfl, ?_⟩; show norm (B (decide (okO x.o))) _; rw [decide_eq_false ho]) | refine ⟨⟨by omega, by omega⟩, ?_⟩ | refine ⟨[], rfl, trivial, congrArg (CV.int .i64) ?_⟩ | fail)
       all_goals (unfold rightF; rw [if_neg h8, ← hg, hst]; rfl)
 · rw [goE_end hkl] at hg
   have htk : l.take k = l := take_end hkl
   rw [htk] at hse
   repeat' ((conv => whnf); first | (refine ⟨fun h => ?_, fun h => ?_⟩ <;> try (exfalso; first | omega | (revert h; decide) | exact h rfl)) | refine ⟨[], rfl, trivial, congrArg (CV.int .i64) ?_⟩ | fail)
   all_goals (unfold rightF; rw [if_neg h8, ← hg, if_pos rfl])
   · rw [if_neg (by omega)]
   · rw [if_pos (by omega)]
theorem right_h : Holds Tryz.prog 86 rightS := holds_of mix Tryz.func86 rightLow (fun _ => rfl) rightV
structure AddX where
 e : Nat
 es : List (List CV)
 i : Nat
 h : Int
 l : Int
 n : Int
 sg : Int
def addS : GSpec := ⟨AddX, fun x => [.row x.e 2 x.es], fun x => [.ep 0 2 x.i 0, I x.n, I x.sg],
 fun x => x.es[x.i]? = some [.int .i64 x.h, .int .i64 x.l] ∧ (x.sg = 1 ∨ x.sg = -1) ∧ (-1099511627776 ≤ x.n ∧ x.n ≤ 1099511627776) ∧ (-1125899906842624 ≤ x.h ∧ x.h ≤ 1125899906842624) ∧ -1125899906842624 ≤ x.l ∧ x.l ≤ 1125899906842624,
 fun _ => .tup [], fun x => [.row x.e 2 (x.es.set x.i [.int .i64 (x.h + x.sg * (x.n / 1048576)), .int .i64 (x.l + x.sg * (x.n % 1048576))])], fun _ => []⟩
def iszIr : IFn := ⟨6, [.tmp 2], (zq [ zo 1 .box [0], zl 2 .mov [zf]] (zq [ zo 3 (.faddr 1) [1], zo 4 (.load 1 false) [3], zl 5 (.cmp .eql) [.tmp 4, zi 0], zm 2 5] .ret))⟩
theorem iszLow : lowF Tryz.prog {} Tryz.f88 = some iszIr := by kernel_rfl
def iszS : Spec := spec Share (fun x => [aS x]) (fun _ => True) (fun x => B (isZ x))
theorem iszV : fnV Tryz.prog iszIr iszS := by
 intro (x : Share) hx
 show vc _ _ _ _ ⟨argEnv 0 [aS x], [], 0⟩
 repeat' ((conv => whnf); first | (refine ⟨fun h => ?_, fun h => ?_⟩ <;> try (exfalso; first | omega | (revert h; decide) | exact h rfl)) | refine ⟨[], rfl, trivial, congrArg CV.bool ?_⟩ | fail)
 all_goals first | exact (decide_eq_true (by assumption)).symm | exact (decide_eq_false (by assumption)).symm
theorem isz_h : Holds Tryz.prog 88 iszS := holds_of mix Tryz.func88 iszLow (fun _ => rfl) iszV
def isnIr : IFn := ⟨6, [.tmp 2], (zq [ zo 1 .box [0], zl 2 .mov [zf]] (zq [ zo 3 (.faddr 1) [1], zo 4 (.load 1 false) [3], zl 5 (.cmp .lss) [.tmp 4, zi 0], zm 2 5] .ret))⟩
theorem isnLow : lowF Tryz.prog {} Tryz.f90 = some isnIr := by kernel_rfl
def isnS : Spec := spec Share (fun x => [aS x]) (fun _ => True) (fun x => B (neg x))
theorem isnV : fnV Tryz.prog isnIr isnS := by
 intro (x : Share) hx
 show vc _ _ _ _ ⟨argEnv 0 [aS x], [], 0⟩
 repeat' ((conv => whnf); first | (refine ⟨fun h => ?_, fun h => ?_⟩ <;> try (exfalso; first | omega | (revert h; decide) | exact h rfl)) | refine ⟨[], rfl, trivial, congrArg CV.bool ?_⟩ | fail)
 all_goals first | exact (decide_eq_true (by assumption)).symm | exact (decide_eq_false (by assumption)).symm
theorem isn_h : Holds Tryz.prog 90 isnS := holds_of mix Tryz.func90 isnLow (fun _ => rfl) isnV
def ispIr : IFn := ⟨6, [.tmp 2], (zq [ zo 1 .box [0], zl 2 .mov [zf]] (zq [ zo 3 (.faddr 1) [1], zo 4 (.load 1 false) [3], zl 5 (.cmp .gtr) [.tmp 4, zi 0], zm 2 5] .ret))⟩
theorem ispLow : lowF Tryz.prog {} Tryz.f91 = some ispIr := by kernel_rfl
def ispS : Spec := spec Share (fun x => [aS x]) (fun _ => True) (fun x => B (pos' x))
theorem ispV : fnV Tryz.prog ispIr ispS := by
 intro (x : Share) hx
 show vc _ _ _ _ ⟨argEnv 0 [aS x], [], 0⟩
 repeat' ((conv => whnf); first | (refine ⟨fun h => ?_, fun h => ?_⟩ <;> try (exfalso; first | omega | (revert h; decide) | exact h rfl)) | refine ⟨[], rfl, trivial, congrArg CV.bool ?_⟩ | fail)
 all_goals first | exact (decide_eq_true (by assumption)).symm | exact (decide_eq_false (by assumption)).symm
theorem isp_h : Holds Tryz.prog 91 ispS := holds_of mix Tryz.func91 ispLow (fun _ => rfl) ispV
def idxIr : IFn := ⟨19, [.tmp 4], (zq [ zl 4 .mov [zi 0]] (.seq (zq [ zm 6 0, zo 7 .len [6], zl 8 .mov [zi 0]] (.block 0 (.loop (zq [ zo 9 (.cmp .lss) [8, 7]] (.seq (.cond (.tmp 9) .skip (.exit 0)) (.seq (.block 1 (zq [ zm 10 8, zm 5 10] (zq [ zm 11 1, zm 12 0, zm 13 5, zo 14 (.idx 2) [12, 13], zo 15 (.load 2 true) [14], zo 16 .callv [11, 15]] (.cond (.tmp 16) (zq [ zm 17 5, zm 4 17] .ret) .skip)))) (zp [ zl 18 (.bin .add .i64 false) [.tmp 8, zi 1], zm 8 18]))))))) (zq [ zl 4 .mov [zi (-1)]] .ret)))⟩
theorem idxLow : lowF Tryz.prog {} Tryz.f89 = some idxIr := by kernel_rfl
abbrev predS (p : Share → Bool) : Spec := spec Share (fun x => [aS x]) (fun _ => True) (fun x => B (p x))
def idxS (g : Nat) (p : Share → Bool) : Spec := spec (List Share) (fun l => [L 2 (l.map encS), .fn g []]) (fun l => l.length ≤ 1000) (fun l => I (idxI p l))
theorem idxV {g : Nat} {p : Share → Bool} (hc : callable Tryz.prog g = true) (hg : Holds Tryz.prog g (predS p)) : fnV Tryz.prog idxIr (idxS g p) := by
 intro (l : List Share) hx
 replace hx : l.length ≤ 1000 := hx
 show vc _ _ _ _ ⟨argEnv 0 [L 2 (l.map encS), .fn g []], [], 0⟩
 have hl : (l.map encS).length = l.length := List.length_map ..
 conv => whnf
 refine ⟨Nat, fun xq => ⟨[(0, L 2 (l.map encS)), (1, .fn g []), (7, I (l.map encS).length), (8, I xq)], [], 0⟩, fun xq => xq ≤ l.length ∧ ∀ y ∈ l.take xq, p y = false, fun xq => l.length - xq, ⟨0, ?_, [], ⟨⟨rfl, rfl⟩, ⟨rfl, rfl⟩, ⟨rfl, rfl⟩, ⟨rfl, rfl⟩, trivial⟩, trivial, rfl, rfl, rfl⟩, ?_⟩
 · (try dsimp only); exact ⟨Nat.zero_le _, by simp⟩
 rintro k hk
 obtain ⟨hk, hn⟩ : k ≤ l.length ∧ ∀ y ∈ l.take k, p y = false := hk
 (try dsimp only)
 by_cases hkl : k < l.length
 · obtain ⟨x, hx⟩ := getElem_some hkl
   cases hp : p x with
   | true =>
     have hf := firstI_at hx hn hp
     repeat' ((conv => whnf); first | (refine ⟨fun h => ?_, fun h => ?_⟩ <;> try (exfalso; first | omega | (revert h; decide) | exact h rfl)) | (refine ⟨by omega, fun r hrr => ?_⟩; obtain rfl := get_row hrr hx) | (refine ⟨hc, _, hg, x, trivial, leVs_of_eq rfl, .inr rfl, rfl, ?_⟩; show norm (B (p x)) _; rw [hp]) | refine ⟨[], rfl, trivial, congrArg (CV.int .i64) ?_⟩ | fail)
     all_goals (unfold idxI; rw [hf])
   | false =>
     repeat' ((conv => whnf); first | (refine ⟨k + 1, ⟨?_, by (try dsimp only); omega⟩, [], ⟨⟨rfl, rfl⟩, ⟨rfl, rfl⟩, ⟨rfl, rfl⟩, ⟨rfl, rfl⟩, trivial⟩, trivial, rfl, rfl, rfl⟩; (try dsimp only); exact ⟨by omega, all_step hx hn hp⟩) | (refine ⟨fun h => ?_, fun h => ?_⟩ <;> try (exfalso; first | omega | (revert h; decide) | exact h rfl)) | (refine ⟨by omega, fun r hrr => ?_⟩; obtain rfl := get_row hrr hx) | (refine ⟨hc, _, hg, x, trivial, leVs_of_eq rfl, .inr rfl, rfl, ?_⟩; show norm (B (p x)) _; rw [hp]) | refine ⟨⟨by omega, by omega⟩, ?_⟩ | fail)
 · rw [take_end hkl] at hn
   repeat' ((conv => whnf); first | (refine ⟨fun h => ?_, fun h => ?_⟩ <;> try (exfalso; first | omega | (revert h; decide) | exact h rfl)) | refine ⟨[], rfl, trivial, congrArg (CV.int .i64) ?_⟩ | fail)
   all_goals (unfold idxI; rw [firstI_all hn])
theorem idx_h {g : Nat} {p : Share → Bool} (hc : callable Tryz.prog g = true) (hg : Holds Tryz.prog g (predS p)) : Holds Tryz.prog 89 (idxS g p) := holds_of mix Tryz.func89 idxLow (fun _ => rfl) (idxV hc hg)
theorem cz : callable Tryz.prog 88 = true := by kernel_rfl
theorem cn : callable Tryz.prog 90 = true := by kernel_rfl
theorem cp : callable Tryz.prog 91 = true := by kernel_rfl
def cloneIr : IFn := ⟨8, [.tmp 2], (zq [ zo 2 (.nilOwn 47 2) []] (.seq (zq [ zm 3 0, zo 4 (.isnil false) [3]] (.cond (.tmp 4) (zq [ zo 2 (.nilOwn 47 2) []] .ret) .skip)) (zq [ zo 5 (.buildOwn 47 2) [], zm 6 0, zo 7 (.append 47 2 16) [5, 6], zm 2 7] .ret)))⟩
theorem cloneLow : lowF Tryz.prog { owns := [(2, 47), (5, 47)] } Tryz.f41 = some cloneIr := by kernel_rfl
def cloneS : Spec := ⟨List Share, fun l => [L 2 (l.map encS)], fun l => l.length ≤ 1000000, fun _ => .osl 0, fun l => [.row 47 2 (l.map encS)]⟩
theorem cloneV : fnV Tryz.prog cloneIr cloneS := by
 intro (xs : List Share) (hx : xs.length ≤ 1000000)
 have hl : (xs.map encS).length = xs.length := List.length_map ..
 conv => whnf
 refine ⟨fun h => ?_, ?_⟩
 · conv => whnf
   refine ⟨[1], rfl, ⟨⟨?_, _, _, _, rfl⟩, trivial⟩, ?_⟩
   · show some (Ob.row 47 2 []) = some (Ob.row 47 2 (xs.map encS))
     rw [h]
   · rfl
 · conv => whnf
   refine ⟨⟨by simp; omega, by simp; omega⟩, ?_⟩
   conv => whnf
   exact ⟨[2], rfl, ⟨⟨rfl, _, _, _, rfl⟩, trivial⟩, rfl⟩
theorem clone_h : Holds Tryz.prog 41 cloneS := holds_of mix Tryz.func41 cloneLow (fun _ => rfl) cloneV
def delIr : IFn := ⟨42, [.tmp 4], (zq [ zl 4 .mov [zx]] (zq [ zm 8 0, zm 9 1, zo 10 (.call 89) [8, 9], zm 5 10] (.seq (zq [ zm 11 5, zl 12 (.cmp .eql) [.tmp 11, zi (-1)]] (.cond (.tmp 12) (zq [ zm 13 0, zm 4 13] .ret) .skip)) (.seq (zq [ zm 14 5, zl 15 (.bin .add .i64 false) [.tmp 14, zi 1], zm 6 15] (.block 0 (.loop (.seq (zq [ zm 16 6, zm 17 0, zo 18 .len [17], zo 19 (.cmp .lss) [16, 18]] (.cond (.tmp 19) .skip (.exit 0))) (.seq (.block 1 (zq [ zm 22 0, zm 23 6, zo 24 (.idx 2) [22, 23], zo 25 (.load 2 true) [24], zo 7 (.alloc [.int .i64 0, .int .i64 0]) [], zn (.store 2) [7, 25]] (zq [ zm 26 1, zo 27 (.load 2
 true) [7], zo 28 .callv [26, 27], zo 29 .not [28]] (.cond (.tmp 29) (zq [ zm 30 0, zm 31 5, zo 32 (.load 2 true) [7], zo 33 (.idx 2) [30, 31], zn (.store 2) [33, 32]] (zp [ zm 34 5, zl 35 (.bin .add .i64 false) [.tmp 34, zi 1], zm 5 35])) .skip)))) (zp [ zm 20 6, zl 21 (.bin .add .i64 false) [.tmp 20, zi 1], zm 6 21])))))) (zq [ zm 36 0, zm 37 5, zo 38 (.subo 2) [36, 37], zn (.clr 2 [.int .i64 0, .int .i64 0]) [38]] (zq [ zm 39 0, zm 40 5, zo 41 (.sliceF 2 false true) [39, 40], zm 4 41] .ret))))))⟩
theorem delLow : lowF Tryz.prog { tls := [38], frz := [41] } Tryz.f87 = some delIr := by kernel_rfl
def delAS : GSpec := ⟨List Share, fun l => [.row 47 2 (l.map encS)], fun _ => [.osl 0, .fn 88 []], fun l => l.length ≤ 1000 ∧ firstI isZ l = none, fun _ => .osl 0, fun l => [.row 47 2 (l.map encS)], fun _ => []⟩
def delBS : GSpec := ⟨List Share, fun l => [.row 47 2 (l.map encS)], fun _ => [.osl 0, .fn 88 []], fun l => l.length ≤ 1000 ∧ ∃ i x, firstI isZ l = some (i, x), fun l => L 2 ((nzl l).map encS), fun _ => [.dead], fun _ => []⟩
theorem delAV : fnG Tryz.prog delIr delAS := by
 intro (l : List Share) hx
 obtain ⟨hlen, hf⟩ : l.length ≤ 1000 ∧ firstI isZ l = none := hx
 show vc _ _ _ _ ⟨argEnv 0 [.osl 0, .fn 88 []], idxFrom 0 [.row 47 2 (l.map encS)], 1⟩
 have hi : idxI isZ l = -1 := by unfold idxI; rw [hf]
 conv => whnf
 (refine ⟨_, idx_h cz isz_h, l, (by show l.length ≤ 1000; omega), leVs_of_eq rfl, .inr rfl, rfl, ?_⟩; show norm (I (idxI isZ l)) _)
 rw [hi]
 conv => whnf
 refine ⟨fun h => ?_, fun h => absurd rfl h⟩
 conv => whnf
 exact ⟨[], rfl, rfl, ⟨⟨rfl, rfl⟩, trivial⟩, rfl, rfl⟩
theorem delBV : fnG Tryz.prog delIr delBS := by
 intro (l : List Share) hx
 obtain ⟨hlen, i0, x0, hf⟩ : l.length ≤ 1000 ∧ ∃ i x, firstI isZ l = some (i, x) := hx
 show vc _ _ _ _ ⟨argEnv 0 [.osl 0, .fn 88 []], idxFrom 0 [.row 47 2 (l.map encS)], 1⟩
 have hi : idxI isZ l = (i0 : Int) := by unfold idxI; rw [hf]
 have h0 := (List.getElem?_eq_some_iff.1 (firstI_get hf).1).1
 conv => whnf
 (refine ⟨_, idx_h cz isz_h, l, (by show l.length ≤ 1000; omega), leVs_of_eq rfl, .inr rfl, rfl, ?_⟩; show norm (I (idxI isZ l)) _)
 rw [hi]
 conv => whnf
 refine ⟨fun h => absurd h (by omega), fun h => ?_⟩
 conv => whnf
 refine ⟨⟨by omega, by omega⟩, ?_⟩
 conv => whnf
 refine ⟨Nat × Nat × (List (List CV)), fun xq => ⟨[(0, .osl 0), (1, .fn 88 []), (5, I xq.2.1), (6, I xq.1)], [(0, .row 47 2 xq.2.2)], 1⟩, fun xq => Del l xq.2.1 xq.1 xq.2.2 encS ∧ True, fun xq => l.length - xq.1, ⟨(i0 + 1, i0, _), ?_, [], ⟨⟨rfl, rfl⟩, ⟨rfl, rfl⟩, ⟨rfl, rfl⟩, ⟨rfl, rfl⟩, trivial⟩, ⟨⟨rfl, rfl, rfl⟩, trivial⟩, rfl, rfl, rfl⟩, ?_⟩
 · (try dsimp only); exact ⟨Del.start (fun _ => rfl) hf, trivial⟩
 rintro ⟨k, i, es⟩ hk
 obtain ⟨hD, _⟩ : Del l i k es encS ∧ True := hk
 (try dsimp only)
 have hel := hD.len
 have hkl0 := hD.le
 have hik := hD.lt
 by_cases hkl : k < l.length
 · obtain ⟨x, hx⟩ := getElem_some hkl
   have g1 : es[(k : Int).toNat]? = some (encS x) := by rw [Int.toNat_natCast, hD.rest k (Nat.le_refl _), hx]; rfl
   obtain ⟨ri, hri⟩ := getElem_some (xs := es) (k := i) (by omega)
   have g2 : es[(i : Int).toNat]? = some ri := by rw [Int.toNat_natCast]; exact hri
   cases hz : isZ x with
   | true =>
     have hz' : x.a = 0 := by simpa [isZ] using hz
     repeat' ((conv => whnf); first | (refine ⟨(k + 1, i, _), ⟨?_, by (try dsimp only); omega⟩, [], ⟨⟨rfl, rfl⟩, ⟨rfl, rfl⟩, ⟨rfl, rfl⟩, ⟨rfl, rfl⟩, trivial⟩, ⟨⟨rfl, rfl, rfl⟩, trivial⟩, rfl, rfl, rfl⟩; (try dsimp only); exact ⟨hD.skip hx hz', trivial⟩) | (refine ⟨fun h => ?_, fun h => ?_⟩ <;> try (exfalso; first | omega | (revert h; decide) | exact h rfl)) | refine get_at g1 ?_ | (refine ⟨cz, _, isz_h, x, trivial, leVs_of_eq rfl, .inr rfl, rfl, ?_⟩; show norm (B (isZ x)) _; rw [hz]) | (refine ⟨⟨by omega, by omega⟩, ?_⟩) | fail)
   | false =>
     have hz' : x.a ≠ 0 := by simpa [isZ] using hz
     obtain ⟨ra, rb, rfl⟩ := two (hD.rows ri (List.mem_of_getElem? hri))
     repeat' ((conv => whnf); first | (refine ⟨(k + 1, i + 1, _), ⟨?_, by (try dsimp only); omega⟩, [], ⟨⟨rfl, rfl⟩, ⟨rfl, rfl⟩, ⟨rfl, rfl⟩, ⟨rfl, rfl⟩, trivial⟩, ⟨⟨rfl, rfl, rfl⟩, trivial⟩, rfl, rfl, rfl⟩; (try dsimp only); exact ⟨hD.keep (fun _ => rfl) hx hz', trivial⟩) | (refine ⟨fun h => ?_, fun h => ?_⟩ <;> try (exfalso; first | omega | (revert h; decide) | exact h rfl)) | refine get_at g1 ?_ | (refine ⟨cz, _, isz_h, x, trivial, leVs_of_eq rfl, .inr rfl, rfl, ?_⟩; show norm (B (isZ x)) _; rw [hz]) | refine get_at g2 ?_ | (refine ⟨⟨by omega, by omega⟩, ?_⟩) | fail)
 · conv => whnf
   refine ⟨fun h => absurd h (by omega), fun h => ?_⟩
   conv => whnf
   refine ⟨⟨by omega, by omega⟩, ?_⟩
   conv => whnf
   refine ⟨by omega, ?_⟩
   conv => whnf
   have hkk : k = l.length := by omega
   have hkept := hD.kept
   have hnum := hD.num
   rw [hkk, List.take_of_length_le (Nat.le_refl _)] at hkept hnum
   have hl' : (es.take i).length = i := by rw [List.length_take]; omega
   refine ⟨⟨by omega, by omega, by simp only [List.length_append, List.length_take, List.length_replicate]; omega⟩, ?_⟩
   conv => whnf
   refine ⟨[], rfl, rfl, trivial, ?_⟩
   show leV (L 2 (((es.take i ++ List.replicate (es.length - i) _).take i).drop 0)) (L 2 ((nzl l).map encS))
   rw [List.drop_zero, List.take_append_of_le_length (by omega), List.take_of_length_le (by omega), hkept]
   exact leV_refl _
theorem delA_g : HoldsG Tryz.prog 87 delAS := holdsG_of mix Tryz.func87 delLow (fun _ => rfl) delAV
theorem delB_g : HoldsG Tryz.prog 87 delBS := holdsG_of mix Tryz.func87 delLow (fun _ => rfl) delBV
def neededIr : IFn := ⟨9, [.tmp 2], (zq [ zl 2 .mov [zx]] (.seq (zq [ zm 3 0, zo 4 (.call 86) [3], zl 5 (.cmp .neq) [.tmp 4, zi 0]] (.cond (.tmp 5) (zq [ zl 2 .mov [zx]] .ret) .skip)) (zq [ zm 6 0, zo 7 (.callo 41) [6], zl 8 (.callg 87) [.tmp 7, .func 88], zm 2 8] .ret)))⟩
theorem neededLow : lowF Tryz.prog { gives := [7], gvs := [8] } Tryz.f64 = some neededIr := by kernel_rfl
def neededS : Spec := spec (List Share) (fun l => [L 2 (l.map encS)]) RightP (fun l => L 2 ((nzl l).map encS))
theorem neededV : fnV Tryz.prog neededIr neededS := by
 intro (l : List Share) hr
 have hr0 := right_iff.2 hr
 have hlen := hr.len
 show vc _ _ _ _ ⟨argEnv 0 [L 2 (l.map encS)], [], 0⟩
 repeat' ((conv => whnf); first | (refine ⟨fun h => ?_, fun h => ?_⟩ <;> try (exfalso; first | omega | (revert h; decide) | exact h rfl)) | (refine ⟨_, right_h, l, (by show l.length ≤ _; omega), leVs_of_eq rfl, .inl rfl, rfl, ?_⟩; show norm (I (rightF l)) _; rw [hr0]) | fail)
 conv => whnf
 refine ⟨rfl, _, clone_h, l, (by show l.length ≤ _; omega), leVs_of_eq rfl, trivial, ?_⟩
 conv => whnf
 cases hf : firstI isZ l with
 | none =>
   refine ⟨[0], _, delA_g, l, ⟨by omega, hf⟩, ⟨⟨⟨rfl, rfl, rfl⟩, trivial⟩, rfl, rfl, rfl⟩, ⟨⟨rfl, rfl⟩, rfl, trivial⟩, .inl rfl, ⟨⟨⟨⟨rfl, rfl⟩, rfl⟩, trivial⟩, trivial⟩, ?_⟩
   conv => whnf
   refine ⟨[], rfl, trivial, ?_⟩
   show leV (L 2 (l.map encS)) (L 2 ((nzl l).map encS))
   rw [nzl_none (firstI_none hf)]
   exact leV_refl _
 | some q =>
   obtain ⟨i, x⟩ := q
   refine ⟨[0], _, delB_g, l, ⟨by omega, _, _, hf⟩, ⟨⟨⟨rfl, rfl, rfl⟩, trivial⟩, rfl, rfl, rfl⟩, ⟨⟨rfl, rfl⟩, rfl, trivial⟩, .inl rfl, ⟨⟨trivial, trivial⟩, trivial⟩, ?_⟩
   conv => whnf
   refine ⟨[], rfl, trivial, ?_⟩
   show leV (L 2 ((nzl l).map encS)) (L 2 ((nzl l).map encS))
   exact leV_refl _
theorem needed_h : Holds Tryz.prog 64 neededS := holds_of mix Tryz.func64 neededLow (fun _ => rfl) neededV
def groupsIr : IFn := ⟨74, [.tmp 2, .tmp 3], (zq [ zl 2 .mov [zx], zl 3 .mov [zx]] (zq [ zm 8 0, zo 9 .len [8], zl 10 (.bin .shl .i64 false) [zi 1, .tmp 9], zo 11 (.mksl 3 1 8 [.int .i64 0]) [10, 10], zm 2 11] (zq [ zm 12 0, zo 13 .len [12], zl 14 (.bin .shl .i64 false) [zi 1, .tmp 13], zo 15 (.mksl 3 1 8 [.int .i64 0]) [14, 14], zm 3 15] (.seq (zq [ zl 4 .mov [zi 1]] (.block 0 (.loop (.seq (zq [ zm 16 4, zm 17 2, zo 18 .len [17], zo 19 (.cmp .lss) [16, 18]] (.cond (.tmp 19) .skip (.exit 0))) (.seq (.block 1 (.seq (zq [ zm 22 0, zo 23 .len [22], zl 24 .mov [zi 0]] (.block 2 (.loop (zq [ zo 25 (.cmp .lss) [24, 23]]
 (.seq (.cond (.tmp 25) .skip (.exit 2)) (.seq (.block 3 (zq [ zm 26 24, zo 27 (.idx 2) [22, 24], zo 28 (.load 2 true) [27], zo 6 (.alloc [.int .i64 0, .int .i64 0]) [], zm 5 26, zn (.store 2) [6, 28]] (zq [ zm 29 4, zm 30 5, zo 31 (.bin .shr .i64 false) [29, 30], zl 32 (.bin .and .i64 false) [.tmp 31, zi 1], zl 33 (.cmp .eql) [.tmp 32, zi 1]] (.cond (.tmp 33) (zq [ zm 34 4, zm 35 5, zl 36 (.bin .shl .i64 false) [zi 1, .tmp 35], zo 37 (.bin .andNot .i64 false) [34, 36], zm 7 37] (.seq (.ops [ zm 38 2, zm 39 4, zm 40 2, zm 41 7, zo 42 (.idx 1) [40, 41], zo 43 (.load 1 false) [42], zo 44 (.faddr
 1) [6], zo 45 (.load 1 false) [44], zo 46 (.bin .add .i64 false) [43, 45], zo 47 (.idx 1) [38, 39], zn (.store 1) [47, 46]] true) (.ops [ zm 48 3, zm 49 4, zm 50 3, zm 51 4, zo 52 (.idx 1) [50, 51], zo 53 (.load 1 false) [52], zm 54 3, zm 55 7, zo 56 (.idx 1) [54, 55], zo 57 (.load 1 false) [56], zo 58 .max [53, 57], zo 59 (.idx 1) [48, 49], zn (.store 1) [59, 58]] true))) .skip)))) (zp [ zl 60 (.bin .add .i64 false) [.tmp 24, zi 1], zm 24 60]))))))) (zq [ zm 61 2, zm 62 4, zo 63 (.idx 1) [61, 62], zo 64 (.load 1 false) [63], zl 65 (.cmp .eql) [.tmp 64, zi 0]] (.cond (.tmp 65) (zp [ zm 66 3, zm
 67 4, zo 68 (.idx 1) [66, 67], zo 69 (.load 1 false) [68], zl 70 (.bin .add .i64 false) [.tmp 69, zi 1], zo 71 (.idx 1) [66, 67], zn (.store 1) [71, 70]]) .skip)))) (zp [ zm 20 4, zl 21 (.bin .add .i64 false) [.tmp 20, zi 1], zm 4 21])))))) (zq [ zm 72 2, zm 73 3, zm 2 72, zm 3 73] .ret)))))⟩
theorem groupsLow : lowF Tryz.prog {} Tryz.f65 = some groupsIr := by kernel_rfl
def groupsS : Spec := spec (List Share) (fun l => [L 2 (l.map encS)]) Few (fun l => .tup [L 1 (tabN (2 ^ l.length) (sumT l)), L 1 (tabN (2 ^ l.length) (mosT l))])
set_option maxHeartbeats 1000000 in
theorem groupsV : fnV Tryz.prog groupsIr groupsS := by
 intro (l : List Share) hf
 replace hf : Few l := hf
 show vc _ _ _ _ ⟨argEnv 0 [L 2 (l.map encS)], [], 0⟩
 have h8 := hf.len
 have h256 := pow_le8 h8
 have hl : (l.map encS).length = l.length := List.length_map ..
 have hN := shl_eq h8
 rw [← hl] at hN
 generalize hNN : 2 ^ (l.map encS).length = N at hN
 have hNl : 2 ^ l.length = N := by rw [← hNN, hl]
 have hNp : 0 < N := by rw [← hNl]; exact Nat.two_pow_pos _
 conv => whnf
 refine ⟨by omega, ?_⟩
 conv => whnf
 refine ⟨⟨by omega, by omega, by omega, by omega⟩, ?_⟩
 rw [hN, Int.toNat_natCast]
 conv => whnf
 refine ⟨by omega, ?_⟩
 conv => whnf
 refine ⟨⟨by omega, by omega, by omega, by omega⟩, ?_⟩
 rw [hN, Int.toNat_natCast]
 conv => whnf
 refine ⟨Nat × (List (List CV)) × (List (List CV)), fun xq => ⟨[(0, L 2 (l.map encS)), (2, .osl 0), (3, .osl 1), (4, I xq.1)], [(0, .row 3 1 xq.2.1), (1, .row 3 1 xq.2.2)], 2⟩, fun xq => (1 ≤ xq.1 ∧ xq.1 ≤ N) ∧ ∃ F G : Nat → Int, (xq.2.1 = tabN N F ∧ xq.2.2 = tabN N G) ∧ Fil0 l xq.1 F G, fun xq => N - xq.1, ⟨(1, _, _), ?_, [], ⟨⟨rfl, rfl⟩, ⟨rfl, rfl⟩, ⟨rfl, rfl⟩, ⟨rfl, rfl⟩, trivial⟩, ⟨⟨rfl, rfl, rfl⟩, ⟨rfl, rfl, rfl⟩, trivial⟩, rfl, rfl, rfl⟩, ?_⟩
 · (try dsimp only); exact ⟨⟨Nat.le_refl _, hNp⟩, _, _, ⟨tabN_zero N, tabN_zero N⟩, Fil0.start l⟩
 rintro ⟨S, es, fs⟩ hk
 obtain ⟨⟨hS1, hSN⟩, F, G, ⟨he, hg⟩, hF⟩ : (1 ≤ S ∧ S ≤ N) ∧ ∃ F G : Nat → Int, (es = tabN N F ∧ fs = tabN N G) ∧ Fil0 l S F G := hk
 (try dsimp only)
 have hel : es.length = N := by rw [he]; exact tabN_len N F
 have hgl : fs.length = N := by rw [hg]; exact tabN_len N G
 by_cases hSl : S < N
 · have hS : S < 2 ^ l.length := by omega
   have hS8 : S < 256 := by omega
   conv => whnf
   refine ⟨fun h => ?_, fun h => absurd h (by omega)⟩
   conv => whnf
   refine ⟨Nat × (List (List CV)) × (List (List CV)), fun xq => ⟨[(0, L 2 (l.map encS)), (2, .osl 0), (3, .osl 1), (4, I S), (22, L 2 (l.map encS)), (23, I (l.map encS).length), (24, I xq.1)], [(0, .row 3 1 xq.2.1), (1, .row 3 1 xq.2.2)], 2⟩, fun xq => xq.1 ≤ l.length ∧ ∃ F G : Nat → Int, (xq.2.1 = tabN N F ∧ xq.2.2 = tabN N G) ∧ FilIn l S xq.1 F G, fun xq => l.length - xq.1, ⟨(0, _, _), ?_, [], ⟨⟨rfl, rfl⟩, ⟨rfl, rfl⟩, ⟨rfl, rfl⟩, ⟨rfl, rfl⟩, ⟨rfl, rfl⟩, ⟨rfl, rfl⟩, ⟨rfl, rfl⟩, trivial⟩, ⟨⟨rfl, rfl, rfl⟩, ⟨rfl, rfl, rfl⟩, trivial⟩, rfl, rfl, rfl⟩, ?_⟩
   · (try dsimp only); exact ⟨Nat.zero_le _, F, G, ⟨he, hg⟩, hF.inner hS⟩
   rintro ⟨i, es, fs⟩ hk
   obtain ⟨hi, F, G, ⟨he, hg⟩, hF⟩ : i ≤ l.length ∧ ∃ F G : Nat → Int, (es = tabN N F ∧ fs = tabN N G) ∧ FilIn l S i F G := hk
   (try dsimp only)
   have hel : es.length = N := by rw [he]; exact tabN_len N F
   have hgl : fs.length = N := by rw [hg]; exact tabN_len N G
   by_cases hil : i < l.length
   · obtain ⟨x, hx⟩ := getElem_some hil
     have hox := (hf.ok x (List.mem_of_getElem? hx)).2
     cases hb : S.testBit i with
     | true =>
       have hbit := bit_yes hS8 (by omega) hb
       have hclr := clr_yes hS8 (by omega) hb
       have hlt := clr_lt hS8 (by omega) hb
       obtain ⟨q1, q2⟩ := (hF.fil (S ^^^ 2 ^ i) (by omega)).1 hlt
       have qb := hf.sum (S ^^^ 2 ^ i)
       rw [show sumB (amt l) (S ^^^ 2 ^ i) = sumT l (S ^^^ 2 ^ i) from rfl, ← q1] at qb
       generalize hc : S ^^^ 2 ^ i = T at *
       repeat' ((conv => whnf); first | (refine ⟨fun h => ?_, fun h => ?_⟩ <;> try (exfalso; first | omega | (revert h; decide) | exact h rfl)) | (refine ⟨by omega, fun r hrr => ?_⟩; obtain rfl := get_row hrr hx) | (refine ⟨Int.natCast_nonneg _, ?_⟩) | fail)
       conv => whnf
       rw [hclr]
       refine ⟨⟨by omega, by omega⟩, ?_⟩
       conv => whnf
       have k1 : es[(T : Int).toNat]? = some (cI (F T)) := by rw [he]; exact tabN_get (by omega)
       refine get_at k1 ?_
       conv => whnf
       (refine ⟨⟨by omega, by omega⟩, ?_⟩)
       conv => whnf
       (refine ⟨⟨by omega, by omega⟩, ?_⟩)
       conv => whnf
       have k2 : es[(S : Int).toNat]? = some (cI (F S)) := by rw [he]; exact tabN_get (by omega)
       refine get_at k2 ?_
       conv => whnf
       (refine ⟨⟨by omega, by omega⟩, ?_⟩)
       conv => whnf
       have k3 : fs[(S : Int).toNat]? = some (cI (G S)) := by rw [hg]; exact tabN_get (by omega)
       refine get_at k3 ?_
       conv => whnf
       (refine ⟨⟨by omega, by omega⟩, ?_⟩)
       conv => whnf
       have k4 : fs[(T : Int).toNat]? = some (cI (G T)) := by rw [hg]; exact tabN_get (by omega)
       refine get_at k4 ?_
       conv => whnf
       (refine ⟨⟨by omega, by omega⟩, ?_⟩)
       conv => whnf
       refine get_at k3 ?_
       conv => whnf
       refine ⟨⟨by omega, by omega⟩, ?_⟩
       conv => whnf
       have hn := hF.take hf hS hb hx
       rw [hc] at hn
       (refine ⟨(i + 1, _, _), ⟨?_, by (try dsimp only); omega⟩, [], ⟨⟨rfl, rfl⟩, ⟨rfl, rfl⟩, ⟨rfl, rfl⟩, ⟨rfl, rfl⟩, ⟨rfl, rfl⟩, ⟨rfl, rfl⟩, ⟨rfl, rfl⟩, trivial⟩, ⟨⟨rfl, rfl, rfl⟩, ⟨rfl, rfl, rfl⟩, trivial⟩, rfl, rfl, rfl⟩; (try dsimp only); exact ⟨by omega, _, _, ⟨by rw [he]; exact tabN_set, by rw [hg]; exact tabN_set⟩, hn⟩)
     | false =>
       have hbit := bit_no hS8 (by omega) hb
       repeat' ((conv => whnf); first | (refine ⟨(i + 1, _, _), ⟨?_, by (try dsimp only); omega⟩, [], ⟨⟨rfl, rfl⟩, ⟨rfl, rfl⟩, ⟨rfl, rfl⟩, ⟨rfl, rfl⟩, ⟨rfl, rfl⟩, ⟨rfl, rfl⟩, ⟨rfl, rfl⟩, trivial⟩, ⟨⟨rfl, rfl, rfl⟩, ⟨rfl, rfl, rfl⟩, trivial⟩, rfl, rfl, rfl⟩; (try dsimp only); exact ⟨by omega, F, G, ⟨he, hg⟩, hF.skip hb⟩) | (refine ⟨fun h => ?_, fun h => ?_⟩ <;> try (exfalso; first | omega | (revert h; decide) | exact h rfl)) | (refine ⟨by omega, fun r hrr => ?_⟩; obtain rfl := get_row hrr hx) | (refine ⟨Int.natCast_nonneg _, ?_⟩) | refine ⟨⟨by omega, by omega⟩, ?_⟩ | fail)
   · have hil' : i = l.length := by omega
     subst hil'
     obtain ⟨d1, d2⟩ := hF.done hf hS (by omega)
     have hmb := hf.most hS
     have k1 : es[(S : Int).toNat]? = some (cI (F S)) := by rw [he]; exact tabN_get (by omega)
     have k3 : fs[(S : Int).toNat]? = some (cI (G S)) := by rw [hg]; exact tabN_get (by omega)
     by_cases hz : sumB (amt l) S = 0
     · have hz' : F S = 0 := d1.trans hz
       have d2' : G S + 1 = mosT l S := by unfold zB at d2; rw [if_pos hz] at d2; exact d2
       have hr : -1 ≤ G S ∧ G S ≤ 7 := by have : (0 : Int) ≤ mosT l S ∧ mosT l S ≤ 8 := ⟨by unfold mosT; omega, by unfold mosT; omega⟩; omega
       repeat' ((conv => whnf); first | (refine ⟨(S + 1, _, _), ⟨?_, by (try dsimp only); omega⟩, [], ⟨⟨rfl, rfl⟩, ⟨rfl, rfl⟩, ⟨rfl, rfl⟩, ⟨rfl, rfl⟩, trivial⟩, ⟨⟨rfl, rfl, rfl⟩, ⟨rfl, rfl, rfl⟩, trivial⟩, rfl, rfl, rfl⟩; (try dsimp only); refine ⟨⟨by omega, by omega⟩, F, _, ⟨he, by rw [hg]; exact tabN_set⟩, (hF.fil.updG (G S + 1)).next d1 (by simp [updF, d2'])⟩) | (refine ⟨fun h => ?_, fun h => ?_⟩ <;> try (exfalso; first | omega | (revert h; decide) | exact h rfl)) | refine get_at k1 ?_ | refine get_at k3 ?_ | (refine ⟨⟨by omega, by omega⟩, ?_⟩) | refine ⟨⟨by omega, by omega⟩, ?_⟩ | fail)
     · have hz' : F S ≠ 0 := fun e => hz (d1.symm.trans e)
       have d2' : G S = mosT l S := by unfold zB at d2; rw [if_neg hz] at d2; simpa using d2
       repeat' ((conv => whnf); first | (refine ⟨(S + 1, _, _), ⟨?_, by (try dsimp only); omega⟩, [], ⟨⟨rfl, rfl⟩, ⟨rfl, rfl⟩, ⟨rfl, rfl⟩, ⟨rfl, rfl⟩, trivial⟩, ⟨⟨rfl, rfl, rfl⟩, ⟨rfl, rfl, rfl⟩, trivial⟩, rfl, rfl, rfl⟩; (try dsimp only); exact ⟨⟨by omega, by omega⟩, F, G, ⟨he, hg⟩, hF.fil.next d1 d2'⟩) | (refine ⟨fun h => ?_, fun h => ?_⟩ <;> try (exfalso; first | omega | (revert h; decide) | exact h rfl)) | refine get_at k1 ?_ | (refine ⟨⟨by omega, by omega⟩, ?_⟩) | refine ⟨⟨by omega, by omega⟩, ?_⟩ | fail)
 · conv => whnf
   refine ⟨fun h => absurd h (by omega), fun h => ?_⟩
   conv => whnf
   refine ⟨[], rfl, trivial, ?_⟩
   show leVs [L 1 es, L 1 fs] [L 1 (tabN (2 ^ l.length) (sumT l)), L 1 (tabN (2 ^ l.length) (mosT l))]
   have hSe : S = N := by omega
   rw [he, hg, hNl, tabN_congr (fun j hj => ((hF.1 j (by omega)).1 (by omega)).1), tabN_congr (fun j hj => ((hF.1 j (by omega)).1 (by omega)).2)]
   exact leVs_of_eq rfl
theorem groups_h : Holds Tryz.prog 65 groupsS := holds_of mix Tryz.func65 groupsLow (fun _ => rfl) groupsV
def isNaNIr : IFn := ⟨6, [.tmp 2], (zq [ zl 2 .mov [zf]] (zq [ zm 3 0, zm 4 0, zo 5 (.cmp .neq) [3, 4], zm 2 5] .ret))⟩
theorem isNaNLow : lowF Tryz.prog {} Tryz.f80 = some isNaNIr := by kernel_rfl
def isNaNS : Spec := spec Int (fun n => [I n]) (fun _ => True) (fun _ => B false)
theorem isNaNV [DrFlag] : fnV Tryz.prog isNaNIr isNaNS := by
 intro (x : Int) hx
 repeat' ((conv => whnf); first | (refine ⟨fun h => ?_, fun h => ?_⟩ <;> try (exfalso; omega)) | refine ⟨[], rfl, trivial, congrArg CV.bool ?_⟩ | refine ⟨[], rfl, trivial, congrArg (CV.int .i64) ?_⟩ | refine ⟨⟨by omega, by omega⟩, ?_⟩ | refine ⟨by omega, ?_⟩ | fail)
 rfl
theorem isNaN_h [DrFlag] : Holds Tryz.prog 80 isNaNS := holds_of mix Tryz.func80 isNaNLow (fun _ => rfl) isNaNV
def compareIr : IFn := ⟨20, [.tmp 4], (zq [ zl 4 .mov [zi 0]] (zq [ zm 7 0, zo 8 (.call 80) [7], zm 5 8] (zq [ zm 9 1, zo 10 (.call 80) [9], zm 6 10] (.seq (zq [ zm 11 5] (.cond (.tmp 11) (.seq (zq [ zm 12 6] (.cond (.tmp 12) (zq [ zl 4 .mov [zi 0]] .ret) .skip)) (zq [ zl 4 .mov [zi (-1)]] .ret)) .skip)) (.seq (zq [ zm 13 6] (.cond (.tmp 13) (zq [ zl 4 .mov [zi 1]] .ret) .skip)) (.seq (zq [ zm 14 0, zm 15 1, zo 16 (.cmp .lss) [14, 15]] (.cond (.tmp 16) (zq [ zl 4 .mov [zi (-1)]] .ret) .skip)) (.seq (zq [ zm 17 0, zm 18 1, zo 19 (.cmp .gtr) [17, 18]] (.cond (.tmp 19) (zq [ zl 4 .mov [zi 1]] .ret) .skip)) (zq [ zl 4
 .mov [zi 0]] .ret))))))))⟩
theorem compareLow : lowF Tryz.prog {} Tryz.f50 = some compareIr := by kernel_rfl
def compareS : Spec := spec (Int × Int) (fun p => [I p.1, I p.2]) (fun _ => True) (fun p => I (cmpI p.1 p.2))
theorem compareV [DrFlag] : fnV Tryz.prog compareIr compareS := by
 intro ⟨x, y⟩ hx
 repeat' ((conv => whnf); first | (refine ⟨fun h => ?_, fun h => ?_⟩ <;> try (exfalso; omega)) | refine ⟨_, isNaN_h, _, trivial, leVs_of_eq rfl, .inr rfl, rfl, ?_⟩ | refine ⟨[], rfl, trivial, congrArg CV.bool ?_⟩ | refine ⟨[], rfl, trivial, congrArg (CV.int .i64) ?_⟩ | refine ⟨⟨by omega, by omega⟩, ?_⟩ | refine ⟨by omega, ?_⟩ | fail)
 all_goals (unfold cmpI; (repeat split) <;> first | rfl | omega | contradiction)
theorem compare_h [DrFlag] : Holds Tryz.prog 50 compareS := holds_of mix Tryz.func50 compareLow (fun _ => rfl) compareV
def orIr : IFn := ⟨18, [.tmp 2], (zq [ zl 2 .mov [zi 0]] (zq [ zl 3 .mov [zi 0]] (.seq (zq [ zm 6 0, zo 7 .len [6], zl 8 .mov [zi 0]] (.block 0 (.loop (zq [ zo 9 (.cmp .lss) [8, 7]] (.seq (.cond (.tmp 9) .skip (.exit 0)) (.seq (.block 1 (zq [ zo 10 (.idx 1) [6, 8], zo 11 (.load 1 false) [10], zm 5 11] (zq [ zm 12 5, zm 13 3, zo 14 (.cmp .neq) [12, 13]] (.cond (.tmp 14) (zq [ zm 15 5, zm 2 15] .ret) .skip)))) (zp [ zl 16 (.bin .add .i64 false) [.tmp 8, zi 1], zm 8 16]))))))) (zq [ zm 17 3, zm 2 17] .ret))))⟩
theorem orLow : lowF Tryz.prog {} Tryz.f69 = some orIr := by kernel_rfl
def orS : Spec := spec (List Int) (fun l => [L 1 (l.map cI)]) (fun l => l.length ≤ 1000) (fun l => I (orI l))
theorem orV [DrFlag] : fnV Tryz.prog orIr orS := by
 intro (xs : List Int) hx
 replace hx : xs.length ≤ 1000 := hx
 have hl : (xs.map cI).length = xs.length := List.length_map ..
 conv => whnf
 refine ⟨Nat, fun k => ⟨[(6, L 1 (xs.map cI)), (7, I (xs.map cI).length), (8, I k), (3, I 0)], [], 0⟩, fun k => k ≤ xs.length ∧ orI xs = orI (xs.drop k), fun k => xs.length - k, ⟨0, ⟨by omega, by simp⟩, [], ⟨⟨rfl, rfl⟩, ⟨rfl, rfl⟩, ⟨rfl, rfl⟩, ⟨rfl, rfl⟩, trivial⟩, trivial, rfl, rfl, rfl⟩, fun k hk => ?_⟩
 obtain ⟨hk, ho⟩ := hk
 conv => whnf
 refine ⟨fun h => ?_, fun h => ?_⟩
 · conv => whnf
   refine ⟨by omega, fun r hr => ?_⟩
   obtain ⟨x, hx', rfl⟩ := map_get hr
   rw [Int.toNat_natCast] at hx'
   have hs := orI_step hx'
   conv => whnf
   refine ⟨fun h0 => ?_, fun h0 => ?_⟩
   · conv => whnf
     refine ⟨[], rfl, trivial, congrArg (CV.int .i64) ?_⟩
     rw [ho, hs, if_neg h0]
   · conv => whnf
     refine ⟨⟨by omega, by omega⟩, ?_⟩
     conv => whnf
     refine ⟨k + 1, ⟨⟨by omega, by rw [ho, hs, if_pos (Decidable.not_not.1 h0)]⟩, by (try dsimp only); omega⟩, [], ⟨⟨rfl, rfl⟩, ⟨rfl, rfl⟩, ⟨rfl, rfl⟩, ⟨rfl, rfl⟩, trivial⟩, trivial, rfl, rfl, rfl⟩
 · conv => whnf
   refine ⟨[], rfl, trivial, congrArg (CV.int .i64) ?_⟩
   rw [ho, List.drop_eq_nil_of_le (by omega), orI]
theorem or_h [DrFlag] : Holds Tryz.prog 69 orS := holds_of mix Tryz.func69 orLow (fun _ => rfl) orV
def orderIr : IFn := ⟨17, [.tmp 4], (zq [ zo 2 .box [0], zo 3 .box [1], zl 4 .mov [zi 0]] (.seq (.ops [ zo 5 (.faddr 0) [2], zo 6 (.load 1 false) [5], zo 7 (.faddr 0) [3], zo 8 (.load 1 false) [7], zo 9 (.call 50) [6, 8], zo 10 (.faddr 1) [2], zo 11 (.load 1 false) [10], zo 12 (.faddr 1) [3], zo 13 (.load 1 false) [12], zo 14 (.call 50) [11, 13], zo 15 (.buildSl 3 1) [9, 14], zo 16 (.call 69) [15], zm 4 16] true) .ret))⟩
theorem orderLow : lowF Tryz.prog {} Tryz.f68 = some orderIr := by kernel_rfl
def orderS : Spec := spec (Tfer × Tfer) (fun p => [aT p.1, aT p.2]) (fun _ => True) (fun p => I (cmpT p.1 p.2))
theorem orderV [DrFlag] : fnV Tryz.prog orderIr orderS := by
 intro ⟨x, y⟩ hx
 repeat' ((conv => whnf); first | (refine ⟨fun h => ?_, fun h => ?_⟩ <;> try (exfalso; omega)) | refine ⟨_, compare_h, (_, _), trivial, leVs_of_eq rfl, .inr rfl, rfl, ?_⟩ | refine ⟨_, or_h, [_, _], (by show (2 : Nat) ≤ 1000; omega), leVs_of_eq rfl, .inr rfl, rfl, ?_⟩ | refine ⟨[], rfl, trivial, congrArg CV.bool ?_⟩ | refine ⟨[], rfl, trivial, congrArg (CV.int .i64) ?_⟩ | refine ⟨⟨by omega, by omega⟩, ?_⟩ | refine ⟨by omega, ?_⟩ | fail)
 all_goals rfl
theorem order_h [DrFlag] : Holds Tryz.prog 68 orderS := holds_of mix Tryz.func68 orderLow (fun _ => rfl) orderV
def settleS : GSpec := ⟨List Share, fun g => [.row 47 2 (g.map encS)], fun _ => [.osl 0], fun g => Grp g ∧ (g.map (·.o)).Nodup, fun g => L 3 ((settleG g).map encT), fun _ => [.dead], fun _ => []⟩
def settleIr : IFn := ⟨63, [.tmp 2], (zq [ zl 2 .mov [zx]] (zq [ zo 3 (.nilOwn 97 3) []] (.block 0 (.loop (.block 1 (zq [ zm 7 0, zl 8 (.call 89) [.tmp 7, .func 90], zm 4 8] (zq [ zm 9 0, zl 10 (.call 89) [.tmp 9, .func 91], zm 5 10] (.seq (zq [ zm 11 4, zl 12 (.cmp .lss) [.tmp 11, zi 0], zm 13 12, zw 14 5 13 false, zh 15 (.cmp .lss) [.tmp 14, zi 0] 13 false, zl 16 .pick [.tmp 13, zv, .tmp 15]] (.cond (.tmp 16) (zq [ zm 17 3, zm 2 17] .ret) .skip)) (.seq (.ops [ zm 18 0, zm 19 4, zo 20 (.idx 2) [18, 19], zo 21 (.faddr 1) [20], zo 22 (.load 1 false) [21], zo 23 (.neg .i64) [22], zm 24 0, zm 25 5, zo 26 (.idx 2) [24,
 25], zo 27 (.faddr 1) [26], zo 28 (.load 1 false) [27], zo 29 .min [23, 28], zm 6 29] true) (zq [ zm 30 0, zm 31 4, zo 32 (.idx 2) [30, 31], zo 33 (.faddr 1) [32], zo 34 (.load 1 false) [33], zm 35 6, zo 36 (.bin .add .i64 false) [34, 35], zo 37 (.idx 2) [30, 31], zo 38 (.faddr 1) [37], zn (.store 1) [38, 36]] (zq [ zm 39 0, zm 40 5, zo 41 (.idx 2) [39, 40], zo 42 (.faddr 1) [41], zo 43 (.load 1 false) [42], zm 44 6, zo 45 (.bin .sub .i64 false) [43, 44], zo 46 (.idx 2) [39, 40], zo 47 (.faddr 1) [46], zn (.store 1) [47, 45]] (.ops [ zm 48 3, zm 49 0, zm 50 4, zo 51 (.idx 2) [49, 50], zo 52
 (.faddr 0) [51], zo 53 (.load 1 false) [52], zm 54 0, zm 55 5, zo 56 (.idx 2) [54, 55], zo 57 (.faddr 0) [56], zo 58 (.load 1 false) [57], zm 59 6, zo 60 (.build [.int .i64 0, .int .i64 0, .int .i64 0] [(0, 1), (1, 1), (2, 1)]) [53, 58, 59], zo 61 (.buildSl 97 3) [60], zo 62 (.append 97 3 24) [48, 61], zm 3 62] true))))))))))))⟩
theorem settleLow : lowF Tryz.prog { owns := [(3, 97)] } Tryz.f66 = some settleIr := by kernel_rfl
theorem settleV : fnG Tryz.prog settleIr settleS := by
 intro (g0 : List Share) hx
 obtain ⟨hg0, hd0⟩ : Grp g0 ∧ (g0.map fun x : Share => x.o).Nodup := hx
 show vc _ _ _ _ ⟨argEnv 0 [.osl 0], idxFrom 0 [.row 47 2 (g0.map encS)], 1⟩
 conv => whnf
 refine ⟨Nat × (List (List CV)) × (List (List CV)), fun xq => ⟨[(0, .osl 0), (3, .osl 1)], [(0, .row 47 2 xq.2.1), (1, .row 97 3 xq.2.2)], 2⟩, fun xq => ∃ (g : List Share) (O : List Tfer), (xq.2.1 = g.map encS ∧ xq.2.2 = O.map encT) ∧ (Grp g ∧ (g.map fun x : Share => x.o).Nodup) ∧ O ++ settleG g = settleG g0 ∧ O.length + nzc g ≤ 8 ∧ xq.1 = nzc g, fun xq => xq.1, ⟨(nzc g0, _, _), ?_, [], ⟨⟨rfl, rfl⟩, ⟨rfl, rfl⟩, trivial⟩, ⟨⟨rfl, rfl, rfl⟩, ⟨rfl, rfl, rfl⟩, trivial⟩, rfl, rfl, rfl⟩, ?_⟩
 · (try dsimp only); exact ⟨g0, [], ⟨rfl, rfl⟩, ⟨hg0, hd0⟩, rfl, by have := nzc_le g0; have := hg0.len; simp only [List.length_nil]; omega, rfl⟩
 rintro ⟨m, gs, es⟩ hk
 obtain ⟨g, O, ⟨rfl, rfl⟩, ⟨hg, hd⟩, hO, hn, hm⟩ : ∃ (g : List Share) (O : List Tfer), (gs = g.map encS ∧ es = O.map encT) ∧ (Grp g ∧ (g.map fun x : Share => x.o).Nodup) ∧ O ++ settleG g = settleG g0 ∧ O.length + nzc g ≤ 8 ∧ m = nzc g := hk
 (try dsimp only)
 have hlen := hg.len
 cases hs : stepS g with
 | none =>
   rw [settle_none hs, List.append_nil] at hO
   unfold stepS at hs
   cases h1 : firstI neg g with
   | none =>
     have e1 := idxI_neg.2 h1
     cases h2 : firstI pos' g with
     | none =>
       have e2 := idxI_neg.2 h2
       repeat' ((conv => whnf); first | (refine ⟨fun h => ?_, fun h => ?_⟩ <;> try (exfalso; first | omega | (revert h; decide) | exact h rfl)) | (refine ⟨_, idx_h cn isn_h, g, (by show g.length ≤ 1000; omega), leVs_of_eq rfl, .inr rfl, rfl, ?_⟩; show norm (I (idxI neg g)) _; rw [show idxI neg g = idxI neg g from rfl]) | (refine ⟨_, idx_h cp isp_h, g, (by show g.length ≤ 1000; omega), leVs_of_eq rfl, .inr rfl, rfl, ?_⟩; show norm (I (idxI pos' g)) _; rw [show idxI pos' g = idxI pos' g from rfl]) | fail)
       all_goals ((conv => whnf); refine ⟨[], rfl, rfl, trivial, ?_⟩; show leV (L 3 (O.map encT)) (L 3 ((settleG g0).map encT)); rw [hO]; exact leV_refl _)
     | some q =>
       obtain ⟨j, y⟩ := q
       have e2 := idxI_some h2
       repeat' ((conv => whnf); first | (refine ⟨fun h => ?_, fun h => ?_⟩ <;> try (exfalso; first | omega | (revert h; decide) | exact h rfl)) | (refine ⟨_, idx_h cn isn_h, g, (by show g.length ≤ 1000; omega), leVs_of_eq rfl, .inr rfl, rfl, ?_⟩; show norm (I (idxI neg g)) _; rw [show idxI neg g = idxI neg g from rfl]) | (refine ⟨_, idx_h cp isp_h, g, (by show g.length ≤ 1000; omega), leVs_of_eq rfl, .inr rfl, rfl, ?_⟩; show norm (I (idxI pos' g)) _; rw [show idxI pos' g = idxI pos' g from rfl]) | fail)
       all_goals ((conv => whnf); refine ⟨[], rfl, rfl, trivial, ?_⟩; show leV (L 3 (O.map encT)) (L 3 ((settleG g0).map encT)); rw [hO]; exact leV_refl _)
   | some p =>
     obtain ⟨i, x⟩ := p
     have e1 := idxI_some h1
     cases h2 : firstI pos' g with
     | none =>
       have e2 := idxI_neg.2 h2
       repeat' ((conv => whnf); first | (refine ⟨fun h => ?_, fun h => ?_⟩ <;> try (exfalso; first | omega | (revert h; decide) | exact h rfl)) | (refine ⟨_, idx_h cn isn_h, g, (by show g.length ≤ 1000; omega), leVs_of_eq rfl, .inr rfl, rfl, ?_⟩; show norm (I (idxI neg g)) _; rw [show idxI neg g = idxI neg g from rfl]) | (refine ⟨_, idx_h cp isp_h, g, (by show g.length ≤ 1000; omega), leVs_of_eq rfl, .inr rfl, rfl, ?_⟩; show norm (I (idxI pos' g)) _; rw [show idxI pos' g = idxI pos' g from rfl]) | fail)
       all_goals ((conv => whnf); refine ⟨[], rfl, rfl, trivial, ?_⟩; show leV (L 3 (O.map encT)) (L 3 ((settleG g0).map encT)); rw [hO]; exact leV_refl _)
     | some q =>
       obtain ⟨j, y⟩ := q
       rw [h1, h2] at hs
       cases hs
 | some p =>
   obtain ⟨tt, g'⟩ := p
   obtain ⟨h1, h2, h3, h4, _⟩ := stepS_spec hg hd hs
   have hst := settle_some hg hd hs
   have hne := hs
   unfold stepS at hs
   split at hs
   · rename_i i x j y f1 f2
     cases hs
     have e1 := idxI_some f1
     have e2 := idxI_some f2
     obtain ⟨g1, p1⟩ := firstI_get f1
     obtain ⟨g2, p2⟩ := firstI_get f2
     simp only [neg, pos', decide_eq_true_eq] at p1 p2
     have hij : j ≠ i := fun e => by subst e; rw [g1] at g2; cases g2; omega
     have hox := hg.ok x (List.mem_of_getElem? g1)
     have hoy := hg.ok y (List.mem_of_getElem? g2)
     unfold okS at hox hoy
     have hi := (List.getElem?_eq_some_iff.1 g1).1
     have hj := (List.getElem?_eq_some_iff.1 g2).1
     have hgl : (g.map encS).length = g.length := List.length_map ..
     have hmn : min (0 - x.a) y.a = min (-x.a) y.a := by rw [Int.zero_sub]
     have k1 : (g.map encS)[(i : Int).toNat]? = some (encS x) := by rw [Int.toNat_natCast, List.getElem?_map, g1]; rfl
     have k2 : (g.map encS)[(j : Int).toNat]? = some (encS y) := by rw [Int.toNat_natCast, List.getElem?_map, g2]; rfl
     repeat' ((conv => whnf); first | (refine ⟨fun h => ?_, fun h => ?_⟩ <;> try (exfalso; first | omega | (revert h; decide) | exact h rfl)) | (refine ⟨_, idx_h cn isn_h, g, (by show g.length ≤ 1000; omega), leVs_of_eq rfl, .inr rfl, rfl, ?_⟩; show norm (I (idxI neg g)) _; rw [e1]) | (refine ⟨_, idx_h cp isp_h, g, (by show g.length ≤ 1000; omega), leVs_of_eq rfl, .inr rfl, rfl, ?_⟩; show norm (I (idxI pos' g)) _; rw [e2]) | refine get_at k1 ?_ | refine get_at k2 ?_ | (refine ⟨⟨by omega, by omega⟩, ?_⟩) | (refine ⟨⟨by omega, by omega⟩, ?_⟩) | fail)
     conv => whnf
     have hE1 : (List.map encS g).set ((i : Int)).toNat (setL (encS x) (0 + 1) [CV.int .i64 (x.a + min (0 - x.a) y.a)]) = (g.set i ⟨x.o, x.a + min (-x.a) y.a⟩).map encS := by
       rw [Int.toNat_natCast, hmn, List.map_set]; rfl
     rw [hE1]
     have q1 : (g.set i ⟨x.o, x.a + min (-x.a) y.a⟩)[j]? = some y := by rw [List.getElem?_set_ne (Ne.symm hij)]; exact g2
     have hE2 : ∀ G : List Share, (G.map encS).set ((j : Int)).toNat (setL (encS y) (0 + 1) [CV.int .i64 (y.a - min (0 - x.a) y.a)]) = (G.set j ⟨y.o, y.a - min (-x.a) y.a⟩).map encS := fun G => by
       rw [Int.toNat_natCast, hmn, List.map_set]; rfl
     have q2 : ((g.set i ⟨x.o, x.a + min (-x.a) y.a⟩).set j ⟨y.o, y.a - min (-x.a) y.a⟩)[i]? = some ⟨x.o, x.a + min (-x.a) y.a⟩ := by rw [List.getElem?_set_ne hij]; exact List.getElem?_set_self hi
     have q3 : ((g.set i ⟨x.o, x.a + min (-x.a) y.a⟩).set j ⟨y.o, y.a - min (-x.a) y.a⟩)[j]? = some ⟨y.o, y.a - min (-x.a) y.a⟩ := List.getElem?_set_self (by simpa using hj)
     have hl1 : (g.set i ⟨x.o, x.a + min (-x.a) y.a⟩).length = g.length := by simp
     generalize g.set i ⟨x.o, x.a + min (-x.a) y.a⟩ = G1 at *
     have hl1' : (G1.map encS).length = g.length := by rw [List.length_map]; exact hl1
     have k3 : (G1.map encS)[(j : Int).toNat]? = some (encS y) := by rw [Int.toNat_natCast, List.getElem?_map, q1]; rfl
     refine ⟨⟨by omega, by omega⟩, ?_⟩
     repeat' ((conv => whnf); first | refine get_at k3 ?_ | (refine ⟨⟨by omega, by omega⟩, ?_⟩) | fail)
     rw [hE2]
     have hl2 : (G1.set j ⟨y.o, y.a - min (-x.a) y.a⟩).length = g.length := by simpa using hl1
     generalize G1.set j ⟨y.o, y.a - min (-x.a) y.a⟩ = G2 at *
     have hl2' : (G2.map encS).length = g.length := by rw [List.length_map]; exact hl2
     have k4 : (G2.map encS)[(i : Int).toNat]? = some (encS ⟨x.o, x.a + min (-x.a) y.a⟩) := by rw [Int.toNat_natCast, List.getElem?_map, q2]; rfl
     have k5 : (G2.map encS)[(j : Int).toNat]? = some (encS ⟨y.o, y.a - min (-x.a) y.a⟩) := by rw [Int.toNat_natCast, List.getElem?_map, q3]; rfl
     refine ⟨⟨by omega, by omega⟩, ?_⟩
     have hc : nzc G2 < nzc g := by omega
     repeat' ((conv => whnf); first | (refine ⟨(nzc G2, _, _), ⟨?_, by (try dsimp only); omega⟩, [(0, 0), (1, 2)], ⟨⟨rfl, rfl⟩, ⟨rfl, rfl⟩, trivial⟩, ⟨⟨rfl, rfl, rfl⟩, ⟨rfl, rfl, rfl⟩, trivial⟩, rfl, rfl, rfl⟩; (try dsimp only); refine ⟨G2, O ++ [⟨x.o, y.o, min (-x.a) y.a⟩], ⟨rfl, by rw [List.map_append, hmn]; rfl⟩, ⟨h1, h2⟩, by rw [List.append_assoc, ← hO, hst]; rfl, by simp only [List.length_append, List.length_cons, List.length_nil]; omega, rfl⟩) | refine get_at k4 ?_ | refine get_at k5 ?_ | (refine ⟨⟨by omega, by omega⟩, ?_⟩) | (refine ⟨⟨by simp only [List.length_map, List.length_cons, List.length_nil]; omega, by simp only [List.length_map, List.length_cons, List.length_nil]; omega⟩, ?_⟩) | fail)
   · cases hs
theorem settle_g : HoldsG Tryz.prog 66 settleS := holdsG_of mix Tryz.func66 settleLow (fun _ => rfl) settleV
end Go.Proofs.YtjpdaapjnpdiiaaGreat.P
