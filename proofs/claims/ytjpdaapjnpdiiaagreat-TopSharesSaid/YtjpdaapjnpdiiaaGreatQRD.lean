/- A part of the proof. -/
import Derived.Test.YtjpdaapjnpdiiaaGreatQR5
import Derived.Test.YtjpdaapjnpdiiaaGreatQRK
namespace Go.Proofs.YtjpdaapjnpdiiaaGreat.P
open Go.RowKit
theorem wf_small {n : Int} (h : -9223372036854775808 ≤ n ∧ n ≤ 9223372036854775807) : (Lit.int .i64 n).wf = true := by
 simp [Lit.wf, IntKind.min, IntKind.max, IntKind.signed, IntKind.bits]
 omega
theorem kvI_head (f : Int → Int) (ks : List Int) : (kvI f ks).map (fun p => headI p.1) = ks := by
 induction ks with
 | nil => rfl
 | cons k r ih =>
   unfold kvI at ih ⊢
   rw [List.map_cons, List.map_cons, ih]; rfl
def totalIr : IFn := ⟨18, [.tmp 2], (zq [ zl 2 .mov [zi 0]] (zq [ zl 3 .mov [zi 0]] (.seq (zq [ zm 6 0, zo 7 .len [6], zl 8 .mov [zi 0]] (.block 0 (.loop (zq [ zo 9 (.cmp .lss) [8, 7]] (.seq (.cond (.tmp 9) .skip (.exit 0)) (.seq (.block 1 (zq [ zo 10 (.idx 2) [6, 8], zo 11 (.load 2 true) [10], zo 5 (.alloc [.int .i64 0, .int .i64 0]) [], zn (.store 2) [5, 11]] (zp [ zm 12 3, zo 13 (.faddr 1) [5], zo 14 (.load 1 false) [13], zo 15 (.bin .add .i64 false) [12, 14], zm 3 15]))) (zp [ zl 16 (.bin .add .i64 false) [.tmp 8, zi 1], zm 8 16]))))))) (zq [ zm 17 3, zm 2 17] .ret))))⟩
theorem totalLow : lowF Tryz.prog {} Tryz.f37 = some totalIr := by kernel_rfl
def totalS : Spec := spec (List Share) (fun l => [L 2 (l.map encS)]) (fun l => accB l = true) (fun l => I (sumA l))
theorem totalV : fnV Tryz.prog totalIr totalS := by
 intro (l : List Share) ha
 replace ha : accB l = true := ha
 have hlen := acc_len ha
 have hl : (l.map encS).length = l.length := List.length_map ..
 show vc _ _ _ _ ⟨argEnv 0 [L 2 (l.map encS)], [], 0⟩
 conv => whnf
 refine ⟨Nat × Int, fun xq => ⟨[(3, I xq.2), (6, L 2 (l.map encS)), (7, I (l.map encS).length), (8, I xq.1)], [], 0⟩, fun xq => xq.1 ≤ l.length ∧ xq.2 = sumA (l.take xq.1), fun xq => l.length - xq.1, ⟨(0, 0), ?_, [], ⟨⟨rfl, rfl⟩, ⟨rfl, rfl⟩, ⟨rfl, rfl⟩, ⟨rfl, rfl⟩, trivial⟩, trivial, rfl, rfl, rfl⟩, ?_⟩
 · (try dsimp only); exact ⟨Nat.zero_le _, rfl⟩
 rintro ⟨k, s⟩ hk
 obtain ⟨hk, hs⟩ : k ≤ l.length ∧ s = sumA (l.take k) := hk
 (try dsimp only)
 have hb := sumA_bndk (acc_ok ha) k hk
 rw [← hs] at hb
 by_cases hkl : k < l.length
 · obtain ⟨x, hx⟩ := getElem_some hkl
   have hxa := (acc_ok ha x (List.mem_of_getElem? hx)).2
   repeat' ((conv => whnf); first | (refine ⟨fun h => ?_, fun h => ?_⟩ <;> try (exfalso; first | omega | (revert h; decide) | exact h rfl | cases (show true = false from h) | cases (show false = true from h))) | (refine ⟨by omega, fun r hrr => ?_⟩; first | ((have hre : r = encS x := by (first | exact get_row hrr hx | fail)); subst hre)) | (refine ⟨(k + 1, _), ⟨?_, by (try dsimp only); omega⟩, [], ⟨⟨rfl, rfl⟩, ⟨rfl, rfl⟩, ⟨rfl, rfl⟩, ⟨rfl, rfl⟩, trivial⟩, trivial, rfl, rfl, rfl⟩; (try dsimp only); exact ⟨by omega, by rw [sumA_snoc hx, hs]⟩) | refine ⟨⟨by omega, by omega⟩, ?_⟩ | fail)
 · rw [take_end hkl] at hs
   repeat' ((conv => whnf); first | (refine ⟨fun h => ?_, fun h => ?_⟩ <;> try (exfalso; first | omega | (revert h; decide) | exact h rfl | cases (show true = false from h) | cases (show false = true from h))) | fail)
   all_goals (refine ⟨[], rfl, trivial, congrArg (CV.int .i64) ?_⟩; exact (hs.symm).symm)
theorem total_h : Holds Tryz.prog 37 totalS := holds_of mix Tryz.func37 totalLow (fun _ => rfl) totalV
def positIr : IFn := ⟨60, [.tmp 4], (zq [ zl 4 .mov [zx]] (zq [ zo 13 (.mkmap 0 false) [], zm 5 13] (.seq (zq [ zm 14 0, zo 15 .len [14], zl 16 .mov [zi 0]] (.block 0 (.loop (zq [ zo 17 (.cmp .lss) [16, 15]] (.seq (.cond (.tmp 17) .skip (.exit 0)) (.seq (.block 1 (zq [ zo 18 (.idx 2) [14, 16], zo 19 (.load 2 true) [18], zo 7 (.alloc [.int .i64 0, .int .i64 0]) [], zn (.store 2) [7, 19]] (zp [ zm 20 5, zo 21 (.faddr 0) [7], zo 22 (.load 1 false) [21], zo 23 (.lookup [.int .i64 0] 0 false false) [20, 22], zo 24 (.faddr 1) [7], zo 25 (.load 1 false) [24], zo 26 (.bin .add .i64 false) [23, 25], zn (.mapset 0 false)
 [20, 22, 26]]))) (zp [ zl 27 (.bin .add .i64 false) [.tmp 16, zi 1], zm 16 27]))))))) (.seq (zq [ zm 28 1, zo 29 .len [28], zl 30 .mov [zi 0]] (.block 2 (.loop (zq [ zo 31 (.cmp .lss) [30, 29]] (.seq (.cond (.tmp 31) .skip (.exit 2)) (.seq (.block 3 (zq [ zo 32 (.idx 2) [28, 30], zo 33 (.load 2 true) [32], zo 9 (.alloc [.int .i64 0, .int .i64 0]) [], zn (.store 2) [9, 33]] (zp [ zm 34 5, zo 35 (.faddr 0) [9], zo 36 (.load 1 false) [35], zo 37 (.lookup [.int .i64 0] 0 false false) [34, 36], zo 38 (.faddr 1) [9], zo 39 (.load 1 false) [38], zo 40 (.bin .sub .i64 false) [37, 39], zn (.mapset 0
 false) [34, 36, 40]]))) (zp [ zl 41 (.bin .add .i64 false) [.tmp 30, zi 1], zm 30 41]))))))) (zq [ zo 10 (.nilOwn 47 2) []] (.seq (zq [ zm 42 5, zo 43 (.callx 32) [42], zo 44 (.callx 31) [43], zo 45 .len [44], zl 46 .mov [zi 0]] (.block 4 (.loop (zq [ zo 47 (.cmp .lss) [46, 45]] (.seq (.cond (.tmp 47) .skip (.exit 4)) (.seq (.block 5 (zq [ zo 48 (.idx 1) [44, 46], zo 49 (.load 1 false) [48], zm 12 49] (zp [ zm 50 10, zm 51 12, zm 52 5, zm 53 12, zo 54 (.lookup [.int .i64 0] 0 false false) [52, 53], zo 55 (.build [.int .i64 0, .int .i64 0] [(0, 1), (1, 1)]) [51, 54], zo 56 (.buildSl 47 2) [55],
 zo 57 (.append 47 2 16) [50, 56], zm 10 57]))) (zp [ zl 58 (.bin .add .i64 false) [.tmp 46, zi 1], zm 46 58]))))))) (zq [ zm 59 10, zm 4 59] .ret)))))))⟩
theorem positLow : lowF Tryz.prog { exts := [43, 44], owns := [(10, 47)] } Tryz.f39 = some positIr := by kernel_rfl
def positS : Spec := spec (List Share × List Share) (fun p => [L 2 (p.1.map encS), L 2 (p.2.map encS)]) (fun p => accB p.1 = true ∧ accB p.2 = true) (fun p => L 2 ((posL p.1 p.2).map encS))
set_option maxHeartbeats 2000000 in
theorem positV : fnV Tryz.prog positIr positS := by
 intro ⟨(due : List Share), (rec : List Share)⟩ hp
 obtain ⟨h1, h2⟩ : accB due = true ∧ accB rec = true := hp
 have l1 := acc_len h1
 have l2 := acc_len h2
 have hl1 : (due.map encS).length = due.length := List.length_map ..
 have hl2 : (rec.map encS).length = rec.length := List.length_map ..
 show vc _ _ _ _ ⟨argEnv 0 [L 2 (due.map encS), L 2 (rec.map encS)], [], 0⟩
 conv => whnf
 refine ⟨Nat × (List (List Int × List CV)), fun xq => ⟨[(1, L 2 (rec.map encS)), (5, .mp 0), (14, L 2 (due.map encS)), (15, I (due.map encS).length), (16, I xq.1)], [(0, .map 0 false xq.2)], 1⟩, fun xq => xq.1 ≤ due.length ∧ ∃ ks, xq.2 = kvI (posAt (due.take xq.1)) ks ∧ ks.Nodup ∧ (∀ z, z ∈ ks ↔ hasO (due.take xq.1) z = true) ∧ ks.length ≤ xq.1, fun xq => due.length - xq.1, ⟨(0, _), ?_, [], ⟨⟨rfl, rfl⟩, ⟨rfl, rfl⟩, ⟨rfl, rfl⟩, ⟨rfl, rfl⟩, ⟨rfl, rfl⟩, trivial⟩, ⟨⟨rfl, rfl, rfl⟩, trivial⟩, rfl, rfl, rfl⟩, ?_⟩
 · (try dsimp only); exact ⟨Nat.zero_le _, [], rfl, .nil, fun z => by simp [hasO], Nat.le_refl _⟩
 rintro ⟨k, kv⟩ hk
 obtain ⟨hk, ks, rfl, hnd, hm, hkl⟩ : k ≤ due.length ∧ ∃ ks, kv = kvI (posAt (due.take k)) ks ∧ ks.Nodup ∧ (∀ z, z ∈ ks ↔ hasO (due.take k) z = true) ∧ ks.length ≤ k := hk
 (try dsimp only)
 by_cases hkk : k < due.length
 · obtain ⟨x, hx⟩ := getElem_some hkk
   have hxa := (acc_ok h1 x (List.mem_of_getElem? hx)).2
   have hb := posAt_bndk h1 k x.o
   have hz : x.o ∉ ks → posAt (due.take k) x.o = 0 := fun h => posAt_zero' (by cases hh : hasO (due.take k) x.o with | false => rfl | true => exact absurd ((hm _).2 hh) h)
   obtain ⟨ks', q1, q2, q3, q4⟩ := setI (f := posAt (due.take k)) (g := posAt (due.take (k + 1))) (o := x.o) (v := posAt (due.take k) x.o + x.a) (fun z => by rw [posAt_take hx]; by_cases e : z = x.o; (rw [if_pos e, if_pos e.symm, e]); rw [if_neg e, if_neg (fun e' => e e'.symm)]; omega) hnd
   repeat' ((conv => whnf); first | refine lookI hz ?_ | (refine ⟨fun h => ?_, fun h => ?_⟩ <;> try (exfalso; first | omega | (revert h; decide) | exact h rfl | cases (show true = false from h) | cases (show false = true from h))) | (refine ⟨by omega, fun r hrr => ?_⟩; first | ((have hre : r = encS x := by (first | exact get_row hrr hx | fail)); subst hre)) | (refine ⟨(k + 1, _), ⟨?_, by (try dsimp only); omega⟩, [], ⟨⟨rfl, rfl⟩, ⟨rfl, rfl⟩, ⟨rfl, rfl⟩, ⟨rfl, rfl⟩, ⟨rfl, rfl⟩, trivial⟩, ⟨⟨rfl, rfl, rfl⟩, trivial⟩, rfl, rfl, rfl⟩; (try dsimp only); exact ⟨by omega, ks', q1, q2, fun z => by rw [q3, hm, hasO_snoc hx, Bool.or_eq_true, decide_eq_true_iff]; exact ⟨fun h => h.imp id Eq.symm, fun h => h.imp id Eq.symm⟩, by omega⟩) | refine ⟨⟨by omega, by omega⟩, ?_⟩ | fail)
 rw [take_end hkk] at hm ⊢
 have hk8 : ks.length ≤ 8 := by omega
 conv => whnf
 refine ⟨fun h => absurd h (by omega), fun h => ?_⟩
 conv => whnf
 refine ⟨Nat × (List (List Int × List CV)), fun xq => ⟨[(5, .mp 0), (28, L 2 (rec.map encS)), (29, I (rec.map encS).length), (30, I xq.1)], [(0, .map 0 false xq.2)], 1⟩, fun xq => xq.1 ≤ rec.length ∧ ∃ ks, xq.2 = kvI (posF due (rec.take xq.1)) ks ∧ ks.Nodup ∧ (∀ z, z ∈ ks ↔ hasO due z = true ∨ hasO (rec.take xq.1) z = true) ∧ ks.length ≤ 8 + xq.1, fun xq => rec.length - xq.1, ⟨(0, _), ?_, [], ⟨⟨rfl, rfl⟩, ⟨rfl, rfl⟩, ⟨rfl, rfl⟩, ⟨rfl, rfl⟩, trivial⟩, ⟨⟨rfl, rfl, rfl⟩, trivial⟩, rfl, rfl, rfl⟩, ?_⟩
 · (try dsimp only); exact ⟨Nat.zero_le _, ks, congrArg (fun f => kvI f ks) (funext fun z => (Int.sub_zero _).symm), hnd, fun z => by rw [hm]; simp [hasO], by omega⟩
 rintro ⟨k, kv⟩ hk
 obtain ⟨hk, ks, rfl, hnd, hm, hkl⟩ : k ≤ rec.length ∧ ∃ ks, kv = kvI (posF due (rec.take k)) ks ∧ ks.Nodup ∧ (∀ z, z ∈ ks ↔ hasO due z = true ∨ hasO (rec.take k) z = true) ∧ ks.length ≤ 8 + k := hk
 (try dsimp only)
 by_cases hkk : k < rec.length
 · obtain ⟨x, hx⟩ := getElem_some hkk
   have hxa := (acc_ok h2 x (List.mem_of_getElem? hx)).2
   have hb := posAt_bndk h2 k x.o
   have hb1 := posAt_bnd h1 x.o
   have hpf : posF due (rec.take k) x.o = posAt due x.o - posAt (rec.take k) x.o := rfl
   have hz : x.o ∉ ks → posF due (rec.take k) x.o = 0 := fun h => by
     have hn : ¬ (hasO due x.o = true ∨ hasO (rec.take k) x.o = true) := fun hh => h ((hm _).2 hh)
     rw [hpf, posAt_zero' (by cases hh : hasO due x.o with | false => rfl | true => exact absurd (.inl hh) hn), posAt_zero' (by cases hh : hasO (rec.take k) x.o with | false => rfl | true => exact absurd (.inr hh) hn)]; rfl
   obtain ⟨ks', q1, q2, q3, q4⟩ := setI (f := posF due (rec.take k)) (g := posF due (rec.take (k + 1))) (o := x.o) (v := posF due (rec.take k) x.o - x.a) (fun z => by unfold posF; rw [posAt_take hx]; by_cases e : z = x.o; (rw [if_pos e, if_pos e.symm, e]; omega); rw [if_neg e, if_neg (fun e' => e e'.symm)]; omega) hnd
   repeat' ((conv => whnf); first | refine lookI hz ?_ | (refine ⟨fun h => ?_, fun h => ?_⟩ <;> try (exfalso; first | omega | (revert h; decide) | exact h rfl | cases (show true = false from h) | cases (show false = true from h))) | (refine ⟨by omega, fun r hrr => ?_⟩; first | ((have hre : r = encS x := by (first | exact get_row hrr hx | fail)); subst hre)) | (refine ⟨(k + 1, _), ⟨?_, by (try dsimp only); omega⟩, [], ⟨⟨rfl, rfl⟩, ⟨rfl, rfl⟩, ⟨rfl, rfl⟩, ⟨rfl, rfl⟩, trivial⟩, ⟨⟨rfl, rfl, rfl⟩, trivial⟩, rfl, rfl, rfl⟩; (try dsimp only); exact ⟨by omega, ks', q1, q2, fun z => by rw [q3, hm, hasO_snoc hx, Bool.or_eq_true, decide_eq_true_iff, or_assoc]; exact ⟨fun h => h.imp id (fun h => h.imp id Eq.symm), fun h => h.imp id (fun h => h.imp id Eq.symm)⟩, by omega⟩) | refine ⟨⟨by omega, by omega⟩, ?_⟩ | fail)
 rw [take_end hkk] at hm ⊢
 have hksl : (kvI (posF due rec) ks).length ≤ 1000000 := by rw [kvI, List.length_map]; omega
 have hops : ∀ o ∈ ks, 1 ≤ o ∧ o ≤ 8 := by
   intro o ho
   rcases (hm o).1 ho with h | h
   · obtain ⟨x, hx, rfl⟩ := hasO_mem.1 h; exact (acc_ok h1 x hx).1
   · obtain ⟨x, hx, rfl⟩ := hasO_mem.1 h; exact (acc_ok h2 x hx).1
 have hks : ∀ p ∈ kvI (posF due rec) ks, ∃ n : Int, p.1 = [n] ∧ (Lit.int .i64 n).wf = true := by
   intro p hp
   obtain ⟨o, ho, rfl⟩ := List.mem_map.1 hp
   have := hops o ho
   exact ⟨_, rfl, wf_small (by omega)⟩
 have hnd' : ((kvI (posF due rec) ks).map fun p => headI p.1).Nodup := by rw [kvI_head]; exact hnd
 have hz : posK due rec = ((kvI (posF due rec) ks).map fun p => headI p.1).mergeSort Go.leI := by rw [kvI_head]; exact posK_sorted h1 h2 hnd hm
 repeat' ((conv => whnf); first | (refine ⟨fun h => ?_, fun h => ?_⟩ <;> try (exfalso; first | omega | (revert h; decide) | exact h rfl | cases (show true = false from h) | cases (show false = true from h))) | refine keys_x _ _ rfl _ ?_ | refine sorted_x _ _ _ rfl rfl hksl hks hnd' (posK due rec) hz _ ?_ | fail)
 refine ⟨Nat × (List (List CV)), fun xq => ⟨[(5, .mp 0), (10, .osl 1), (44, .osl 2), (45, I ((posK due rec).map fun n => [CV.int .i64 n]).length), (46, I xq.1)], [(0, .map 0 false (kvI (posF due rec) ks)), (1, .row 47 2 xq.2), (2, .row 3 1 ((posK due rec).map fun n => [CV.int .i64 n]))], 3⟩, fun xq => xq.1 ≤ (posK due rec).length ∧ xq.2 = ((posK due rec).take xq.1).map fun n => encS ⟨n, posF due rec n⟩, fun xq => (posK due rec).length - xq.1, ⟨(0, _), ?_, [(0, 0), (1, 1), (2, 3)], ⟨⟨rfl, rfl⟩, ⟨rfl, rfl⟩, ⟨rfl, rfl⟩, ⟨rfl, rfl⟩, ⟨rfl, rfl⟩, trivial⟩, ⟨⟨rfl, rfl, rfl⟩, ⟨rfl, rfl, rfl⟩, ⟨rfl, rfl, rfl⟩, trivial⟩, rfl, rfl, rfl⟩, ?_⟩
 · (try dsimp only); exact ⟨Nat.zero_le _, rfl⟩
 rintro ⟨k, es⟩ hk
 obtain ⟨hk, rfl⟩ : k ≤ (posK due rec).length ∧ es = ((posK due rec).take k).map fun n => encS ⟨n, posF due rec n⟩ := hk
 (try dsimp only)
 have hpl := posK_len due rec
 have hlz : ((posK due rec).map fun n => [CV.int .i64 n]).length = (posK due rec).length := List.length_map ..
 have hle : (((posK due rec).take k).map fun n => encS ⟨n, posF due rec n⟩).length = k := by rw [List.length_map, List.length_take]; omega
 by_cases hkk : k < (posK due rec).length
 · obtain ⟨n, hn⟩ := getElem_some hkk
   have hst := posK_take due rec hn
   have gk : ((posK due rec).map fun n => [CV.int .i64 n])[(k : Int).toNat]? = some [.int .i64 n] := by rw [Int.toNat_natCast, List.getElem?_map, hn]; rfl
   have hz0 : n ∉ ks → posF due rec n = 0 := fun h => by
     have := (List.mem_filter.1 (List.mem_of_getElem? hn)).2
     rw [Bool.or_eq_true, ← hm] at this
     exact absurd this h
   repeat' ((conv => whnf); first | refine lookI hz0 ?_ | (refine ⟨fun h => ?_, fun h => ?_⟩ <;> try (exfalso; first | omega | (revert h; decide) | exact h rfl | cases (show true = false from h) | cases (show false = true from h))) | refine get_at gk ?_ | (refine ⟨(k + 1, _), ⟨?_, by (try dsimp only); omega⟩, [(0, 0), (1, 3), (2, 2)], ⟨⟨rfl, rfl⟩, ⟨rfl, rfl⟩, ⟨rfl, rfl⟩, ⟨rfl, rfl⟩, ⟨rfl, rfl⟩, trivial⟩, ⟨⟨rfl, rfl, rfl⟩, ⟨rfl, rfl, rfl⟩, ⟨rfl, rfl, rfl⟩, trivial⟩, rfl, rfl, rfl⟩; (try dsimp only); exact ⟨by omega, hst.symm⟩) | (refine ⟨⟨by first | omega | (simp only [List.length_nil]; omega) | (simp only [List.length_cons, List.length_nil]; omega), by first | omega | (simp only [List.length_nil]; omega) | (simp only [List.length_cons, List.length_nil]; omega)⟩, ?_⟩) | refine ⟨⟨by omega, by omega⟩, ?_⟩ | fail)
 · rw [take_end hkk]
   repeat' ((conv => whnf); first | (refine ⟨fun h => ?_, fun h => ?_⟩ <;> try (exfalso; first | omega | (revert h; decide) | exact h rfl | cases (show true = false from h) | cases (show false = true from h))) | fail)
   all_goals (refine ⟨[], rfl, trivial, ?_⟩; show leV (L 2 _) (L 2 ((posL due rec).map encS)); unfold posL; rw [List.map_map]; exact leV_refl _)
theorem posit_h : Holds Tryz.prog 39 positS := holds_of mix Tryz.func39 positLow (fun _ => rfl) positV
end Go.Proofs.YtjpdaapjnpdiiaaGreat.P
