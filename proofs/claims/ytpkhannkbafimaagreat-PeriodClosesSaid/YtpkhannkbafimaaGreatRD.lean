/- Periods: positions. -/
import Derived.Test.YtpkhannkbafimaaGreatRC
import Derived.Test.YtpkhannkbafimaaGreatRK
namespace Go.Proofs.YtpkhannkbafimaaGreat
open Go.RowKit
theorem wf_small {n : Int} (h : -9223372036854775808 ≤ n ∧ n ≤ 9223372036854775807) : (Lit.int .i64 n).wf = true := by
  simp [Lit.wf, IntKind.min, IntKind.max, IntKind.signed, IntKind.bits]
  omega
theorem kvI_head (f : Int → Int) (ks : List Int) : (kvI f ks).map (fun p => headI p.1) = ks := by
  induction ks with
  | nil => rfl
  | cons k r ih =>
    unfold kvI at ih ⊢
    rw [List.map_cons, List.map_cons, ih]; rfl

/-! skiarea/period.total -/
def totalIr : IFn := ⟨18, [.tmp 2],
 (.seq (.ops [
 ⟨(some 2), .mov, [.const (.int .i64 0)], none⟩] false)
 (.seq (.ops [
 ⟨(some 3), .mov, [.const (.int .i64 0)], none⟩] false)
 (.seq (.seq (.ops [
 ⟨(some 6), .mov, [.tmp 0], none⟩,
 ⟨(some 7), .len, [.tmp 6], none⟩,
 ⟨(some 8), .mov, [.const (.int .i64 0)], none⟩] false)
 (.block 0
 (.loop
 (.seq (.ops [
 ⟨(some 9), .cmp .lss, [.tmp 8, .tmp 7], none⟩] false)
 (.seq (.cond (.tmp 9)
 .skip
 (.exit 0))
 (.seq (.block 1
 (.seq (.ops [
 ⟨(some 10), .idx 2, [.tmp 6, .tmp 8], none⟩,
 ⟨(some 11), .load 2 true, [.tmp 10], none⟩,
 ⟨(some 5), .alloc [.int .i64 0, .int .i64 0], [], none⟩,
 ⟨none, .store 2, [.tmp 5, .tmp 11], none⟩] false)
 (.ops [
 ⟨(some 12), .mov, [.tmp 3], none⟩,
 ⟨(some 13), .faddr 1, [.tmp 5], none⟩,
 ⟨(some 14), .load 1 false, [.tmp 13], none⟩,
 ⟨(some 15), .bin .add .i64 false, [.tmp 12, .tmp 14], none⟩,
 ⟨(some 3), .mov, [.tmp 15], none⟩] false)))
 (.ops [
 ⟨(some 16), .bin .add .i64 false, [.tmp 8, .const (.int .i64 1)], none⟩,
 ⟨(some 8), .mov, [.tmp 16], none⟩] false)))))))
 (.seq (.ops [
 ⟨(some 17), .mov, [.tmp 3], none⟩,
 ⟨(some 2), .mov, [.tmp 17], none⟩] false)
 .ret))))⟩
theorem totalLow : lowF Tryz.prog {} Tryz.f62 = some totalIr := by kernel_rfl
def totalS : Spec := spec (List Share) (fun l => [L 2 (l.map encS)]) (fun l => accB l = true) (fun l => I (sumA l))
theorem totalV : fnV Tryz.prog totalIr totalS := by
  intro (l : List Share) ha
  replace ha : accB l = true := ha
  have hlen := acc_len ha
  have hl : (l.map encS).length = l.length := List.length_map ..
  show vc _ _ _ _ ⟨argEnv 0 [L 2 (l.map encS)], [], 0⟩
  conv => whnf
  refine ⟨Nat × Int, fun xq => ⟨[(3, I xq.2), (6, L 2 (l.map encS)), (7, I (l.map encS).length), (8, I xq.1)], [], 0⟩, fun xq => xq.1 ≤ l.length ∧ xq.2 = sumA (l.take xq.1), fun xq => l.length - xq.1, ⟨(0, 0), ?_, [], ⟨⟨rfl, rfl⟩, ⟨⟨rfl, rfl⟩, ⟨⟨rfl, rfl⟩, ⟨⟨rfl, rfl⟩, trivial⟩⟩⟩⟩, trivial, rfl, rfl, rfl⟩, ?_⟩
  · (try dsimp only); exact ⟨Nat.zero_le _, rfl⟩
  rintro ⟨k, s⟩ hk
  obtain ⟨hk, hs⟩ : k ≤ l.length ∧ s = sumA (l.take k) := hk
  (try dsimp only)
  have hb := sumA_bndk (acc_ok ha) k hk
  rw [← hs] at hb
  by_cases hkl : k < l.length
  · obtain ⟨x, hx⟩ := getElem_some hkl
    have hxa := (acc_ok ha x (List.mem_of_getElem? hx)).2
    repeat' ((conv => whnf); first | (refine ⟨fun h => ?_, fun h => ?_⟩ <;> try (exfalso; first | omega | exact absurd h (by decide) | exact h rfl | exact absurd (show true = false from h) (by decide) | exact absurd (show false = true from h) (by decide))) | (refine ⟨by omega, fun r hrr => ?_⟩; first | ((have hre : r = encS x := by (first | exact get_row hrr hx | fail)); subst hre)) | (refine ⟨(k + 1, _), ⟨?_, by (try dsimp only); omega⟩, [], ⟨⟨rfl, rfl⟩, ⟨⟨rfl, rfl⟩, ⟨⟨rfl, rfl⟩, ⟨⟨rfl, rfl⟩, trivial⟩⟩⟩⟩, trivial, rfl, rfl, rfl⟩; (try dsimp only); exact ⟨by omega, by rw [sumA_snoc hx, hs]⟩) | refine ⟨⟨by omega, by omega⟩, ?_⟩ | fail)
  · rw [take_end hkl] at hs
    repeat' ((conv => whnf); first | (refine ⟨fun h => ?_, fun h => ?_⟩ <;> try (exfalso; first | omega | exact absurd h (by decide) | exact h rfl | exact absurd (show true = false from h) (by decide) | exact absurd (show false = true from h) (by decide))) | fail | fail)
    all_goals (refine ⟨[], rfl, trivial, congrArg (CV.int .i64) ?_⟩; exact (hs.symm).symm)
theorem total_h : Holds Tryz.prog 62 totalS := holds_of mix Tryz.func62 totalLow (fun _ => rfl) totalV

/-! skiarea/period.positions -/
def positIr : IFn := ⟨60, [.tmp 4],
 (.seq (.ops [
 ⟨(some 4), .mov, [.const (.slice none 0 0)], none⟩] false)
 (.seq (.ops [
 ⟨(some 13), .mkmap 0 false, [], none⟩,
 ⟨(some 5), .mov, [.tmp 13], none⟩] false)
 (.seq (.seq (.ops [
 ⟨(some 14), .mov, [.tmp 0], none⟩,
 ⟨(some 15), .len, [.tmp 14], none⟩,
 ⟨(some 16), .mov, [.const (.int .i64 0)], none⟩] false)
 (.block 0
 (.loop
 (.seq (.ops [
 ⟨(some 17), .cmp .lss, [.tmp 16, .tmp 15], none⟩] false)
 (.seq (.cond (.tmp 17)
 .skip
 (.exit 0))
 (.seq (.block 1
 (.seq (.ops [
 ⟨(some 18), .idx 2, [.tmp 14, .tmp 16], none⟩,
 ⟨(some 19), .load 2 true, [.tmp 18], none⟩,
 ⟨(some 7), .alloc [.int .i64 0, .int .i64 0], [], none⟩,
 ⟨none, .store 2, [.tmp 7, .tmp 19], none⟩] false)
 (.ops [
 ⟨(some 20), .mov, [.tmp 5], none⟩,
 ⟨(some 21), .faddr 0, [.tmp 7], none⟩,
 ⟨(some 22), .load 1 false, [.tmp 21], none⟩,
 ⟨(some 23), .lookup [.int .i64 0] 0 false false, [.tmp 20, .tmp 22], none⟩,
 ⟨(some 24), .faddr 1, [.tmp 7], none⟩,
 ⟨(some 25), .load 1 false, [.tmp 24], none⟩,
 ⟨(some 26), .bin .add .i64 false, [.tmp 23, .tmp 25], none⟩,
 ⟨none, .mapset 0 false, [.tmp 20, .tmp 22, .tmp 26], none⟩] false)))
 (.ops [
 ⟨(some 27), .bin .add .i64 false, [.tmp 16, .const (.int .i64 1)], none⟩,
 ⟨(some 16), .mov, [.tmp 27], none⟩] false)))))))
 (.seq (.seq (.ops [
 ⟨(some 28), .mov, [.tmp 1], none⟩,
 ⟨(some 29), .len, [.tmp 28], none⟩,
 ⟨(some 30), .mov, [.const (.int .i64 0)], none⟩] false)
 (.block 2
 (.loop
 (.seq (.ops [
 ⟨(some 31), .cmp .lss, [.tmp 30, .tmp 29], none⟩] false)
 (.seq (.cond (.tmp 31)
 .skip
 (.exit 2))
 (.seq (.block 3
 (.seq (.ops [
 ⟨(some 32), .idx 2, [.tmp 28, .tmp 30], none⟩,
 ⟨(some 33), .load 2 true, [.tmp 32], none⟩,
 ⟨(some 9), .alloc [.int .i64 0, .int .i64 0], [], none⟩,
 ⟨none, .store 2, [.tmp 9, .tmp 33], none⟩] false)
 (.ops [
 ⟨(some 34), .mov, [.tmp 5], none⟩,
 ⟨(some 35), .faddr 0, [.tmp 9], none⟩,
 ⟨(some 36), .load 1 false, [.tmp 35], none⟩,
 ⟨(some 37), .lookup [.int .i64 0] 0 false false, [.tmp 34, .tmp 36], none⟩,
 ⟨(some 38), .faddr 1, [.tmp 9], none⟩,
 ⟨(some 39), .load 1 false, [.tmp 38], none⟩,
 ⟨(some 40), .bin .sub .i64 false, [.tmp 37, .tmp 39], none⟩,
 ⟨none, .mapset 0 false, [.tmp 34, .tmp 36, .tmp 40], none⟩] false)))
 (.ops [
 ⟨(some 41), .bin .add .i64 false, [.tmp 30, .const (.int .i64 1)], none⟩,
 ⟨(some 30), .mov, [.tmp 41], none⟩] false)))))))
 (.seq (.ops [
 ⟨(some 10), .nilOwn 58 2, [], none⟩] false)
 (.seq (.seq (.ops [
 ⟨(some 42), .mov, [.tmp 5], none⟩,
 ⟨(some 43), .callx 92, [.tmp 42], none⟩,
 ⟨(some 44), .callx 91, [.tmp 43], none⟩,
 ⟨(some 45), .len, [.tmp 44], none⟩,
 ⟨(some 46), .mov, [.const (.int .i64 0)], none⟩] false)
 (.block 4
 (.loop
 (.seq (.ops [
 ⟨(some 47), .cmp .lss, [.tmp 46, .tmp 45], none⟩] false)
 (.seq (.cond (.tmp 47)
 .skip
 (.exit 4))
 (.seq (.block 5
 (.seq (.ops [
 ⟨(some 48), .idx 1, [.tmp 44, .tmp 46], none⟩,
 ⟨(some 49), .load 1 false, [.tmp 48], none⟩,
 ⟨(some 12), .mov, [.tmp 49], none⟩] false)
 (.ops [
 ⟨(some 50), .mov, [.tmp 10], none⟩,
 ⟨(some 51), .mov, [.tmp 12], none⟩,
 ⟨(some 52), .mov, [.tmp 5], none⟩,
 ⟨(some 53), .mov, [.tmp 12], none⟩,
 ⟨(some 54), .lookup [.int .i64 0] 0 false false, [.tmp 52, .tmp 53], none⟩,
 ⟨(some 55), .build [.int .i64 0, .int .i64 0] [(0, 1), (1, 1)], [.tmp 51, .tmp 54], none⟩,
 ⟨(some 56), .buildSl 58 2, [.tmp 55], none⟩,
 ⟨(some 57), .append 58 2 16, [.tmp 50, .tmp 56], none⟩,
 ⟨(some 10), .mov, [.tmp 57], none⟩] false)))
 (.ops [
 ⟨(some 58), .bin .add .i64 false, [.tmp 46, .const (.int .i64 1)], none⟩,
 ⟨(some 46), .mov, [.tmp 58], none⟩] false)))))))
 (.seq (.ops [
 ⟨(some 59), .mov, [.tmp 10], none⟩,
 ⟨(some 4), .mov, [.tmp 59], none⟩] false)
 .ret)))))))⟩
theorem positLow : lowF Tryz.prog { exts := [43, 44], owns := [(10, 58)] } Tryz.f64 = some positIr := by kernel_rfl
def positS : Spec := spec (List Share × List Share) (fun p => [L 2 (p.1.map encS), L 2 (p.2.map encS)]) (fun p => accB p.1 = true ∧ accB p.2 = true) (fun p => L 2 ((posL p.1 p.2).map encS))
set_option maxHeartbeats 2000000 in
theorem positV : fnV Tryz.prog positIr positS := by
  intro ⟨(due : List Share), (rec : List Share)⟩ hp
  obtain ⟨h1, h2⟩ : accB due = true ∧ accB rec = true := hp
  have l1 := acc_len h1
  have l2 := acc_len h2
  have hl1 : (due.map encS).length = due.length := List.length_map ..
  have hl2 : (rec.map encS).length = rec.length := List.length_map ..
  show vc _ _ _ _ ⟨argEnv 0 [L 2 (due.map encS), L 2 (rec.map encS)], [], 0⟩
  conv => whnf
  refine ⟨Nat × (List (List Int × List CV)), fun xq => ⟨[(1, L 2 (rec.map encS)), (5, .mp 0), (14, L 2 (due.map encS)), (15, I (due.map encS).length), (16, I xq.1)], [(0, .map 0 false xq.2)], 1⟩, fun xq => xq.1 ≤ due.length ∧ ∃ ks, xq.2 = kvI (posAt (due.take xq.1)) ks ∧ ks.Nodup ∧ (∀ z, z ∈ ks ↔ hasO (due.take xq.1) z = true) ∧ ks.length ≤ xq.1, fun xq => due.length - xq.1, ⟨(0, _), ?_, [], ⟨⟨rfl, rfl⟩, ⟨⟨rfl, rfl⟩, ⟨⟨rfl, rfl⟩, ⟨⟨rfl, rfl⟩, ⟨⟨rfl, rfl⟩, trivial⟩⟩⟩⟩⟩, ⟨⟨rfl, rfl, rfl⟩, trivial⟩, rfl, rfl, rfl⟩, ?_⟩
  · (try dsimp only); exact ⟨Nat.zero_le _, [], rfl, .nil, fun z => by simp [hasO], Nat.le_refl _⟩
  rintro ⟨k, kv⟩ hk
  obtain ⟨hk, ks, rfl, hnd, hm, hkl⟩ : k ≤ due.length ∧ ∃ ks, kv = kvI (posAt (due.take k)) ks ∧ ks.Nodup ∧ (∀ z, z ∈ ks ↔ hasO (due.take k) z = true) ∧ ks.length ≤ k := hk
  (try dsimp only)
  by_cases hkk : k < due.length
  · obtain ⟨x, hx⟩ := getElem_some hkk
    have hxa := (acc_ok h1 x (List.mem_of_getElem? hx)).2
    have hb := posAt_bndk h1 k x.o
    have hz : x.o ∉ ks → posAt (due.take k) x.o = 0 := fun h => posAt_zero' (by cases hh : hasO (due.take k) x.o with | false => rfl | true => exact absurd ((hm _).2 hh) h)
    obtain ⟨ks', q1, q2, q3, q4⟩ := setI (f := posAt (due.take k)) (g := posAt (due.take (k + 1))) (o := x.o) (v := posAt (due.take k) x.o + x.a) (fun z => by rw [posAt_take hx]; by_cases e : z = x.o; (rw [if_pos e, if_pos e.symm, e]); rw [if_neg e, if_neg (fun e' => e e'.symm)]; omega) hnd
    repeat' ((conv => whnf); first | refine lookI hz ?_ | (refine ⟨fun h => ?_, fun h => ?_⟩ <;> try (exfalso; first | omega | exact absurd h (by decide) | exact h rfl | exact absurd (show true = false from h) (by decide) | exact absurd (show false = true from h) (by decide))) | (refine ⟨by omega, fun r hrr => ?_⟩; first | ((have hre : r = encS x := by (first | exact get_row hrr hx | fail)); subst hre)) | (refine ⟨(k + 1, _), ⟨?_, by (try dsimp only); omega⟩, [], ⟨⟨rfl, rfl⟩, ⟨⟨rfl, rfl⟩, ⟨⟨rfl, rfl⟩, ⟨⟨rfl, rfl⟩, ⟨⟨rfl, rfl⟩, trivial⟩⟩⟩⟩⟩, ⟨⟨rfl, rfl, rfl⟩, trivial⟩, rfl, rfl, rfl⟩; (try dsimp only); exact ⟨by omega, ks', q1, q2, fun z => by rw [q3, hm, hasO_snoc hx, Bool.or_eq_true, decide_eq_true_iff]; exact ⟨fun h => h.imp id Eq.symm, fun h => h.imp id Eq.symm⟩, by omega⟩) | refine ⟨⟨by omega, by omega⟩, ?_⟩ | fail)
  rw [take_end hkk] at hm ⊢
  have hk8 : ks.length ≤ 8 := by omega
  conv => whnf
  refine ⟨fun h => absurd h (by omega), fun h => ?_⟩
  conv => whnf
  refine ⟨Nat × (List (List Int × List CV)), fun xq => ⟨[(5, .mp 0), (28, L 2 (rec.map encS)), (29, I (rec.map encS).length), (30, I xq.1)], [(0, .map 0 false xq.2)], 1⟩, fun xq => xq.1 ≤ rec.length ∧ ∃ ks, xq.2 = kvI (posF due (rec.take xq.1)) ks ∧ ks.Nodup ∧ (∀ z, z ∈ ks ↔ hasO due z = true ∨ hasO (rec.take xq.1) z = true) ∧ ks.length ≤ 8 + xq.1, fun xq => rec.length - xq.1, ⟨(0, _), ?_, [], ⟨⟨rfl, rfl⟩, ⟨⟨rfl, rfl⟩, ⟨⟨rfl, rfl⟩, ⟨⟨rfl, rfl⟩, trivial⟩⟩⟩⟩, ⟨⟨rfl, rfl, rfl⟩, trivial⟩, rfl, rfl, rfl⟩, ?_⟩
  · (try dsimp only); exact ⟨Nat.zero_le _, ks, congrArg (fun f => kvI f ks) (funext fun z => (Int.sub_zero _).symm), hnd, fun z => by rw [hm]; simp [hasO], by omega⟩
  rintro ⟨k, kv⟩ hk
  obtain ⟨hk, ks, rfl, hnd, hm, hkl⟩ : k ≤ rec.length ∧ ∃ ks, kv = kvI (posF due (rec.take k)) ks ∧ ks.Nodup ∧ (∀ z, z ∈ ks ↔ hasO due z = true ∨ hasO (rec.take k) z = true) ∧ ks.length ≤ 8 + k := hk
  (try dsimp only)
  by_cases hkk : k < rec.length
  · obtain ⟨x, hx⟩ := getElem_some hkk
    have hxa := (acc_ok h2 x (List.mem_of_getElem? hx)).2
    have hb := posAt_bndk h2 k x.o
    have hb1 := posAt_bnd h1 x.o
    have hpf : posF due (rec.take k) x.o = posAt due x.o - posAt (rec.take k) x.o := rfl
    have hz : x.o ∉ ks → posF due (rec.take k) x.o = 0 := fun h => by
      have hn : ¬ (hasO due x.o = true ∨ hasO (rec.take k) x.o = true) := fun hh => h ((hm _).2 hh)
      rw [hpf, posAt_zero' (by cases hh : hasO due x.o with | false => rfl | true => exact absurd (.inl hh) hn), posAt_zero' (by cases hh : hasO (rec.take k) x.o with | false => rfl | true => exact absurd (.inr hh) hn)]; rfl
    obtain ⟨ks', q1, q2, q3, q4⟩ := setI (f := posF due (rec.take k)) (g := posF due (rec.take (k + 1))) (o := x.o) (v := posF due (rec.take k) x.o - x.a) (fun z => by unfold posF; rw [posAt_take hx]; by_cases e : z = x.o; (rw [if_pos e, if_pos e.symm, e]; omega); rw [if_neg e, if_neg (fun e' => e e'.symm)]; omega) hnd
    repeat' ((conv => whnf); first | refine lookI hz ?_ | (refine ⟨fun h => ?_, fun h => ?_⟩ <;> try (exfalso; first | omega | exact absurd h (by decide) | exact h rfl | exact absurd (show true = false from h) (by decide) | exact absurd (show false = true from h) (by decide))) | (refine ⟨by omega, fun r hrr => ?_⟩; first | ((have hre : r = encS x := by (first | exact get_row hrr hx | fail)); subst hre)) | (refine ⟨(k + 1, _), ⟨?_, by (try dsimp only); omega⟩, [], ⟨⟨rfl, rfl⟩, ⟨⟨rfl, rfl⟩, ⟨⟨rfl, rfl⟩, ⟨⟨rfl, rfl⟩, trivial⟩⟩⟩⟩, ⟨⟨rfl, rfl, rfl⟩, trivial⟩, rfl, rfl, rfl⟩; (try dsimp only); exact ⟨by omega, ks', q1, q2, fun z => by rw [q3, hm, hasO_snoc hx, Bool.or_eq_true, decide_eq_true_iff, or_assoc]; exact ⟨fun h => h.imp id (fun h => h.imp id Eq.symm), fun h => h.imp id (fun h => h.imp id Eq.symm)⟩, by omega⟩) | refine ⟨⟨by omega, by omega⟩, ?_⟩ | fail)
  rw [take_end hkk] at hm ⊢
  have hksl : (kvI (posF due rec) ks).length ≤ 1000000 := by rw [kvI, List.length_map]; omega
  have hops : ∀ o ∈ ks, 1 ≤ o ∧ o ≤ 8 := by
    intro o ho
    rcases (hm o).1 ho with h | h
    · obtain ⟨x, hx, rfl⟩ := hasO_mem.1 h; exact (acc_ok h1 x hx).1
    · obtain ⟨x, hx, rfl⟩ := hasO_mem.1 h; exact (acc_ok h2 x hx).1
  have hks : ∀ p ∈ kvI (posF due rec) ks, ∃ n : Int, p.1 = [n] ∧ (Lit.int .i64 n).wf = true := by
    intro p hp
    obtain ⟨o, ho, rfl⟩ := List.mem_map.1 hp
    have := hops o ho
    exact ⟨_, rfl, wf_small (by omega)⟩
  have hnd' : ((kvI (posF due rec) ks).map fun p => headI p.1).Nodup := by rw [kvI_head]; exact hnd
  have hz : posK due rec = ((kvI (posF due rec) ks).map fun p => headI p.1).mergeSort Go.leI := by rw [kvI_head]; exact posK_sorted h1 h2 hnd hm
  repeat' ((conv => whnf); first | (refine ⟨fun h => ?_, fun h => ?_⟩ <;> try (exfalso; first | omega | exact absurd h (by decide) | exact h rfl | exact absurd (show true = false from h) (by decide) | exact absurd (show false = true from h) (by decide))) | refine keys_x _ _ rfl _ ?_ | refine sorted_x _ _ _ rfl rfl hksl hks hnd' (posK due rec) hz _ ?_ | fail | fail)
  refine ⟨Nat × (List (List CV)), fun xq => ⟨[(5, .mp 0), (10, .osl 1), (44, .osl 2), (45, I ((posK due rec).map fun n => [CV.int .i64 n]).length), (46, I xq.1)], [(0, .map 0 false (kvI (posF due rec) ks)), (1, .row 58 2 xq.2), (2, .row 3 1 ((posK due rec).map fun n => [CV.int .i64 n]))], 3⟩, fun xq => xq.1 ≤ (posK due rec).length ∧ xq.2 = ((posK due rec).take xq.1).map fun n => encS ⟨n, posF due rec n⟩, fun xq => (posK due rec).length - xq.1, ⟨(0, _), ?_, [(0, 0), (1, 1), (2, 3)], ⟨⟨rfl, rfl⟩, ⟨⟨rfl, rfl⟩, ⟨⟨rfl, rfl⟩, ⟨⟨rfl, rfl⟩, ⟨⟨rfl, rfl⟩, trivial⟩⟩⟩⟩⟩, ⟨⟨rfl, rfl, rfl⟩, ⟨⟨rfl, rfl, rfl⟩, ⟨⟨rfl, rfl, rfl⟩, trivial⟩⟩⟩, rfl, rfl, rfl⟩, ?_⟩
  · (try dsimp only); exact ⟨Nat.zero_le _, rfl⟩
  rintro ⟨k, es⟩ hk
  obtain ⟨hk, rfl⟩ : k ≤ (posK due rec).length ∧ es = ((posK due rec).take k).map fun n => encS ⟨n, posF due rec n⟩ := hk
  (try dsimp only)
  have hpl := posK_len due rec
  have hlz : ((posK due rec).map fun n => [CV.int .i64 n]).length = (posK due rec).length := List.length_map ..
  have hle : (((posK due rec).take k).map fun n => encS ⟨n, posF due rec n⟩).length = k := by rw [List.length_map, List.length_take]; omega
  by_cases hkk : k < (posK due rec).length
  · obtain ⟨n, hn⟩ := getElem_some hkk
    have hst := posK_take due rec hn
    have gk : ((posK due rec).map fun n => [CV.int .i64 n])[(k : Int).toNat]? = some [.int .i64 n] := by rw [Int.toNat_natCast, List.getElem?_map, hn]; rfl
    have hz0 : n ∉ ks → posF due rec n = 0 := fun h => by
      have := (List.mem_filter.1 (List.mem_of_getElem? hn)).2
      rw [Bool.or_eq_true, ← hm] at this
      exact absurd this h
    repeat' ((conv => whnf); first | refine lookI hz0 ?_ | (refine ⟨fun h => ?_, fun h => ?_⟩ <;> try (exfalso; first | omega | exact absurd h (by decide) | exact h rfl | exact absurd (show true = false from h) (by decide) | exact absurd (show false = true from h) (by decide))) | refine get_at gk ?_ | (refine ⟨(k + 1, _), ⟨?_, by (try dsimp only); omega⟩, [(0, 0), (1, 3), (2, 2)], ⟨⟨rfl, rfl⟩, ⟨⟨rfl, rfl⟩, ⟨⟨rfl, rfl⟩, ⟨⟨rfl, rfl⟩, ⟨⟨rfl, rfl⟩, trivial⟩⟩⟩⟩⟩, ⟨⟨rfl, rfl, rfl⟩, ⟨⟨rfl, rfl, rfl⟩, ⟨⟨rfl, rfl, rfl⟩, trivial⟩⟩⟩, rfl, rfl, rfl⟩; (try dsimp only); exact ⟨by omega, hst.symm⟩) | (refine ⟨⟨by first | omega | (simp only [List.length_nil]; omega) | (simp only [List.length_cons, List.length_nil]; omega), by first | omega | (simp only [List.length_nil]; omega) | (simp only [List.length_cons, List.length_nil]; omega)⟩, ?_⟩) | refine ⟨⟨by omega, by omega⟩, ?_⟩ | fail)
  · rw [take_end hkk]
    repeat' ((conv => whnf); first | (refine ⟨fun h => ?_, fun h => ?_⟩ <;> try (exfalso; first | omega | exact absurd h (by decide) | exact h rfl | exact absurd (show true = false from h) (by decide) | exact absurd (show false = true from h) (by decide))) | fail | fail)
    all_goals (refine ⟨[], rfl, trivial, ?_⟩; show leV (L 2 _) (L 2 ((posL due rec).map encS)); unfold posL; rw [List.map_map]; exact leV_refl _)
theorem posit_h : Holds Tryz.prog 64 positS := holds_of mix Tryz.func64 positLow (fun _ => rfl) positV

/-! skiarea/skiarearef38.amount -/
def amountIr : IFn := ⟨25, [.tmp 4, .tmp 5],
 (.seq (.ops [
 ⟨(some 4), .mov, [.const (.int .i64 0)], none⟩,
 ⟨(some 5), .mov, [.const (.bool false)], none⟩] false)
 (.seq (.seq (.ops [
 ⟨(some 6), .mov, [.const (.int .i64 0)], none⟩] false)
 (.block 0
 (.loop
 (.seq (.seq (.ops [
 ⟨(some 7), .mov, [.tmp 6], none⟩,
 ⟨(some 8), .mov, [.tmp 0], none⟩,
 ⟨(some 9), .len, [.tmp 8], none⟩,
 ⟨(some 10), .cmp .lss, [.tmp 7, .tmp 9], none⟩] false)
 (.cond (.tmp 10)
 .skip
 (.exit 0)))
 (.seq (.block 1
 (.seq (.ops [
 ⟨(some 13), .mov, [.tmp 0], none⟩,
 ⟨(some 14), .mov, [.tmp 6], none⟩,
 ⟨(some 15), .idx 2, [.tmp 13, .tmp 14], none⟩,
 ⟨(some 16), .faddr 0, [.tmp 15], none⟩,
 ⟨(some 17), .load 1 false, [.tmp 16], none⟩,
 ⟨(some 18), .mov, [.tmp 1], none⟩,
 ⟨(some 19), .cmp .eql, [.tmp 17, .tmp 18], none⟩] false)
 (.cond (.tmp 19)
 (.seq (.ops [
 ⟨(some 20), .mov, [.tmp 0], none⟩,
 ⟨(some 21), .mov, [.tmp 6], none⟩,
 ⟨(some 22), .idx 2, [.tmp 20, .tmp 21], none⟩,
 ⟨(some 23), .faddr 1, [.tmp 22], none⟩,
 ⟨(some 24), .load 1 false, [.tmp 23], none⟩,
 ⟨(some 4), .mov, [.tmp 24], none⟩,
 ⟨(some 5), .mov, [.const (.bool true)], none⟩] false)
 .ret)
 .skip)))
 (.ops [
 ⟨(some 11), .mov, [.tmp 6], none⟩,
 ⟨(some 12), .bin .add .i64 false, [.tmp 11, .const (.int .i64 1)], none⟩,
 ⟨(some 6), .mov, [.tmp 12], none⟩] false))))))
 (.seq (.ops [
 ⟨(some 4), .mov, [.const (.int .i64 0)], none⟩,
 ⟨(some 5), .mov, [.const (.bool false)], none⟩] false)
 .ret)))⟩
theorem amountLow : lowF Tryz.prog {} Tryz.f67 = some amountIr := by kernel_rfl
def amountS : Spec := spec (List Share × Int) (fun p => [L 2 (p.1.map encS), I p.2]) (fun p => accB p.1 = true) (fun p => .tup [I (posAt p.1 p.2), B (hasO p.1 p.2)])
theorem amountV : fnV Tryz.prog amountIr amountS := by
  intro ⟨(l : List Share), (n : Int)⟩ ha
  replace ha : accB l = true := ha
  have hlen := acc_len ha
  have hl : (l.map encS).length = l.length := List.length_map ..
  show vc _ _ _ _ ⟨argEnv 0 [L 2 (l.map encS), I n], [], 0⟩
  conv => whnf
  refine ⟨Nat, fun xq => ⟨[(0, L 2 (l.map encS)), (1, I n), (6, I xq)], [], 0⟩, fun xq => xq ≤ l.length ∧ ∀ y ∈ l.take xq, decide (y.o = n) = false, fun xq => l.length - xq, ⟨0, ?_, [], ⟨⟨rfl, rfl⟩, ⟨⟨rfl, rfl⟩, ⟨⟨rfl, rfl⟩, trivial⟩⟩⟩, trivial, rfl, rfl, rfl⟩, ?_⟩
  · (try dsimp only); exact ⟨Nat.zero_le _, by simp⟩
  rintro k hk
  obtain ⟨hk, hn⟩ : k ≤ l.length ∧ ∀ y ∈ l.take k, decide (y.o = n) = false := hk
  (try dsimp only)
  by_cases hkl : k < l.length
  · obtain ⟨x, hx⟩ := getElem_some hkl
    by_cases hxn : x.o = n
    · have hm := List.mem_of_getElem? hx
      have e1 : posAt l n = x.a := by rw [← hxn]; exact posAt_one (acc_inc ha) x hm
      have e2 : hasO l n = true := hasO_mem.2 ⟨x, hm, hxn⟩
      repeat' ((conv => whnf); first | (refine ⟨fun h => ?_, fun h => ?_⟩ <;> try (exfalso; first | omega | exact absurd h (by decide) | exact h rfl | exact absurd (show true = false from h) (by decide) | exact absurd (show false = true from h) (by decide))) | (refine ⟨by omega, fun r hrr => ?_⟩; first | ((have hre : r = encS x := by (first | exact get_row hrr hx | fail)); subst hre)) | fail | fail)
      all_goals (refine ⟨[], rfl, trivial, ?_⟩; show leR _ (.tup [I (posAt l n), B (hasO l n)]); rw [e1, e2]; exact ⟨rfl, rfl, trivial⟩)
    · repeat' ((conv => whnf); first | (refine ⟨fun h => ?_, fun h => ?_⟩ <;> try (exfalso; first | omega | exact absurd h (by decide) | exact h rfl | exact absurd (show true = false from h) (by decide) | exact absurd (show false = true from h) (by decide))) | (refine ⟨by omega, fun r hrr => ?_⟩; first | ((have hre : r = encS x := by (first | exact get_row hrr hx | fail)); subst hre)) | (refine ⟨k + 1, ⟨?_, by (try dsimp only); omega⟩, [], ⟨⟨rfl, rfl⟩, ⟨⟨rfl, rfl⟩, ⟨⟨rfl, rfl⟩, trivial⟩⟩⟩, trivial, rfl, rfl, rfl⟩; (try dsimp only); exact ⟨by omega, no_step hx hn (decide_eq_false hxn)⟩) | refine ⟨⟨by omega, by omega⟩, ?_⟩ | fail)
  · rw [take_end hkl] at hn
    have e2 : hasO l n = false := any_no hn
    have e1 : posAt l n = 0 := posAt_zero' e2
    repeat' ((conv => whnf); first | (refine ⟨fun h => ?_, fun h => ?_⟩ <;> try (exfalso; first | omega | exact absurd h (by decide) | exact h rfl | exact absurd (show true = false from h) (by decide) | exact absurd (show false = true from h) (by decide))) | fail | fail)
    all_goals (refine ⟨[], rfl, trivial, ?_⟩; show leR _ (.tup [I (posAt l n), B (hasO l n)]); rw [e1, e2]; exact ⟨rfl, rfl, trivial⟩)
theorem amount_h : Holds Tryz.prog 67 amountS := holds_of mix Tryz.func67 amountLow (fun _ => rfl) amountV
theorem ops_get : ∀ j : Fin 8, opsL[j.1]? = some ((j.1 + 1 : Nat) : Int) := by decide
def posT (due rec : List Share) (j : Nat) : List Share := ((opsL.take j).filter fun n => hasO due n || hasO rec n).map fun n => ⟨n, posF due rec n⟩
theorem posT_len (due rec : List Share) (j : Nat) : (posT due rec j).length ≤ 8 := by
  unfold posT
  rw [List.length_map]
  refine Nat.le_trans (List.length_filter_le _ _) ?_
  rw [List.length_take]
  exact Nat.min_le_right _ _
theorem posT_step (due rec : List Share) {j : Nat} (h : j < 8) : posT due rec (j + 1) = if (hasO due ((j + 1 : Nat) : Int) || hasO rec ((j + 1 : Nat) : Int)) = true then posT due rec j ++ [⟨((j + 1 : Nat) : Int), posF due rec ((j + 1 : Nat) : Int)⟩] else posT due rec j := by
  unfold posT
  rw [take_snoc opsL j _ (ops_get ⟨j, h⟩), List.filter_append, List.map_append]
  cases hh : (hasO due ((j + 1 : Nat) : Int) || hasO rec ((j + 1 : Nat) : Int)) with
  | true => rw [if_pos rfl, List.filter_cons, if_pos hh]; rfl
  | false => rw [if_neg Bool.false_ne_true, List.filter_cons, if_neg (by rw [hh]; exact Bool.false_ne_true)]; simp

/-! skiarea/skiarearef38.Positions -/
def rpositIr : IFn := ⟨40, [.tmp 4],
 (.seq (.ops [
 ⟨(some 4), .mov, [.const (.slice none 0 0)], none⟩] false)
 (.seq (.ops [
 ⟨(some 5), .nilOwn 58 2, [], none⟩] false)
 (.seq (.seq (.ops [
 ⟨(some 6), .mov, [.const (.int .i64 1)], none⟩] false)
 (.block 0
 (.loop
 (.seq (.seq (.ops [
 ⟨(some 11), .mov, [.tmp 6], none⟩,
 ⟨(some 12), .cmp .leq, [.tmp 11, .const (.int .i64 8)], none⟩] false)
 (.cond (.tmp 12)
 .skip
 (.exit 0)))
 (.seq (.block 1
 (.seq (.ops [
 ⟨(some 16), .mov, [.tmp 0], none⟩,
 ⟨(some 17), .mov, [.tmp 6], none⟩,
 ⟨(some 18), .call 67, [.tmp 16, .tmp 17], none⟩,
 ⟨(some 15), .mov, [.tmp 18], none⟩,
 ⟨(some 19), .extract 0, [.tmp 15], none⟩,
 ⟨(some 20), .extract 1, [.tmp 15], none⟩,
 ⟨(some 7), .mov, [.tmp 19], none⟩,
 ⟨(some 8), .mov, [.tmp 20], none⟩] false)
 (.seq (.ops [
 ⟨(some 22), .mov, [.tmp 1], none⟩,
 ⟨(some 23), .mov, [.tmp 6], none⟩,
 ⟨(some 24), .call 67, [.tmp 22, .tmp 23], none⟩,
 ⟨(some 21), .mov, [.tmp 24], none⟩,
 ⟨(some 25), .extract 0, [.tmp 21], none⟩,
 ⟨(some 26), .extract 1, [.tmp 21], none⟩,
 ⟨(some 9), .mov, [.tmp 25], none⟩,
 ⟨(some 10), .mov, [.tmp 26], none⟩] false)
 (.seq (.ops [
 ⟨(some 27), .mov, [.tmp 8], none⟩,
 ⟨(some 28), .mov, [.tmp 27], none⟩,
 ⟨(some 29), .mov, [.tmp 10], (some (28, false))⟩,
 ⟨(some 30), .pick, [.tmp 28, .const (.bool true), .tmp 29], none⟩] false)
 (.cond (.tmp 30)
 (.ops [
 ⟨(some 31), .mov, [.tmp 5], none⟩,
 ⟨(some 32), .mov, [.tmp 6], none⟩,
 ⟨(some 33), .mov, [.tmp 7], none⟩,
 ⟨(some 34), .mov, [.tmp 9], none⟩,
 ⟨(some 35), .bin .sub .i64 false, [.tmp 33, .tmp 34], none⟩,
 ⟨(some 36), .build [.int .i64 0, .int .i64 0] [(0, 1), (1, 1)], [.tmp 32, .tmp 35], none⟩,
 ⟨(some 37), .buildSl 58 2, [.tmp 36], none⟩,
 ⟨(some 38), .append 58 2 16, [.tmp 31, .tmp 37], none⟩,
 ⟨(some 5), .mov, [.tmp 38], none⟩] false)
 .skip)))))
 (.ops [
 ⟨(some 13), .mov, [.tmp 6], none⟩,
 ⟨(some 14), .bin .add .i64 false, [.tmp 13, .const (.int .i64 1)], none⟩,
 ⟨(some 6), .mov, [.tmp 14], none⟩] false))))))
 (.seq (.ops [
 ⟨(some 39), .mov, [.tmp 5], none⟩,
 ⟨(some 4), .mov, [.tmp 39], none⟩] false)
 .ret))))⟩
theorem rpositLow : lowF Tryz.prog { owns := [(5, 58)] } Tryz.f30 = some rpositIr := by kernel_rfl
def rpositS : Spec := spec (List Share × List Share) (fun p => [L 2 (p.1.map encS), L 2 (p.2.map encS)]) (fun p => accB p.1 = true ∧ accB p.2 = true) (fun p => L 2 ((posL p.1 p.2).map encS))
set_option maxHeartbeats 1000000 in
theorem rpositV : fnV Tryz.prog rpositIr rpositS := by
  intro ⟨(due : List Share), (rec : List Share)⟩ hp
  obtain ⟨h1, h2⟩ : accB due = true ∧ accB rec = true := hp
  show vc _ _ _ _ ⟨argEnv 0 [L 2 (due.map encS), L 2 (rec.map encS)], [], 0⟩
  conv => whnf
  refine ⟨Nat × (List (List CV)), fun xq => ⟨[(0, L 2 (due.map encS)), (1, L 2 (rec.map encS)), (5, .osl 0), (6, I ((xq.1 + 1 : Nat) : Int))], [(0, .row 58 2 xq.2)], 1⟩, fun xq => xq.1 ≤ 8 ∧ xq.2 = (posT due rec xq.1).map encS, fun xq => 8 - xq.1, ⟨(0, _), ?_, [], ⟨⟨rfl, rfl⟩, ⟨⟨rfl, rfl⟩, ⟨⟨rfl, rfl⟩, ⟨⟨rfl, rfl⟩, trivial⟩⟩⟩⟩, ⟨⟨rfl, rfl, rfl⟩, trivial⟩, rfl, rfl, rfl⟩, ?_⟩
  · (try dsimp only); exact ⟨by omega, rfl⟩
  rintro ⟨j, es⟩ hk
  obtain ⟨hj, rfl⟩ : j ≤ 8 ∧ es = (posT due rec j).map encS := hk
  (try dsimp only)
  have hlo : ((posT due rec j).map encS).length = (posT due rec j).length := List.length_map ..
  have h8 := posT_len due rec j
  by_cases hjl : j < 8
  · have hst := posT_step due rec hjl
    have b1 := posAt_bnd h1 ((j + 1 : Nat) : Int)
    have b2 := posAt_bnd h2 ((j + 1 : Nat) : Int)
    cases d1 : hasO due ((j + 1 : Nat) : Int) with
    | true =>
      rw [d1, Bool.true_or] at hst
      cases d2 : hasO rec ((j + 1 : Nat) : Int)
      all_goals
        repeat' ((conv => whnf); first | (refine ⟨fun h => ?_, fun h => ?_⟩ <;> try (exfalso; first | omega | exact absurd h (by decide) | exact h rfl | exact absurd (show true = false from h) (by decide) | exact absurd (show false = true from h) (by decide))) | (refine ⟨_, amount_h, (due, ((j + 1 : Nat) : Int)), h1, leVs_of_eq rfl, .inl rfl, rfl, ?_⟩; show norm (.tup [I (posAt due ((j + 1 : Nat) : Int)), B (hasO due ((j + 1 : Nat) : Int))]) _; rw [d1]) | (refine ⟨_, amount_h, (rec, ((j + 1 : Nat) : Int)), h2, leVs_of_eq rfl, .inl rfl, rfl, ?_⟩; show norm (.tup [I (posAt rec ((j + 1 : Nat) : Int)), B (hasO rec ((j + 1 : Nat) : Int))]) _; rw [d2]) | (refine ⟨(j + 1, _), ⟨?_, by (try dsimp only); omega⟩, [(0, 1)], ⟨⟨rfl, rfl⟩, ⟨⟨rfl, rfl⟩, ⟨⟨rfl, rfl⟩, ⟨⟨rfl, rfl⟩, trivial⟩⟩⟩⟩, ⟨⟨rfl, rfl, rfl⟩, trivial⟩, rfl, rfl, rfl⟩; (try dsimp only); exact ⟨by omega, by rw [hst, if_pos rfl, List.map_append]; rfl⟩) | (refine ⟨⟨by first | omega | (simp only [List.length_nil]; omega) | (simp only [List.length_cons, List.length_nil]; omega), by first | omega | (simp only [List.length_nil]; omega) | (simp only [List.length_cons, List.length_nil]; omega)⟩, ?_⟩) | refine ⟨⟨by omega, by omega⟩, ?_⟩ | fail)
    | false =>
      cases d2 : hasO rec ((j + 1 : Nat) : Int) with
      | true =>
        rw [d1, d2, Bool.false_or] at hst
        repeat' ((conv => whnf); first | (refine ⟨fun h => ?_, fun h => ?_⟩ <;> try (exfalso; first | omega | exact absurd h (by decide) | exact h rfl | exact absurd (show true = false from h) (by decide) | exact absurd (show false = true from h) (by decide))) | (refine ⟨_, amount_h, (due, ((j + 1 : Nat) : Int)), h1, leVs_of_eq rfl, .inl rfl, rfl, ?_⟩; show norm (.tup [I (posAt due ((j + 1 : Nat) : Int)), B (hasO due ((j + 1 : Nat) : Int))]) _; rw [d1]) | (refine ⟨_, amount_h, (rec, ((j + 1 : Nat) : Int)), h2, leVs_of_eq rfl, .inl rfl, rfl, ?_⟩; show norm (.tup [I (posAt rec ((j + 1 : Nat) : Int)), B (hasO rec ((j + 1 : Nat) : Int))]) _; rw [d2]) | (refine ⟨(j + 1, _), ⟨?_, by (try dsimp only); omega⟩, [(0, 1)], ⟨⟨rfl, rfl⟩, ⟨⟨rfl, rfl⟩, ⟨⟨rfl, rfl⟩, ⟨⟨rfl, rfl⟩, trivial⟩⟩⟩⟩, ⟨⟨rfl, rfl, rfl⟩, trivial⟩, rfl, rfl, rfl⟩; (try dsimp only); exact ⟨by omega, by rw [hst, if_pos rfl, List.map_append]; rfl⟩) | (refine ⟨⟨by first | omega | (simp only [List.length_nil]; omega) | (simp only [List.length_cons, List.length_nil]; omega), by first | omega | (simp only [List.length_nil]; omega) | (simp only [List.length_cons, List.length_nil]; omega)⟩, ?_⟩) | refine ⟨⟨by omega, by omega⟩, ?_⟩ | fail)
      | false =>
        rw [d1, d2, Bool.false_or] at hst
        repeat' ((conv => whnf); first | (refine ⟨fun h => ?_, fun h => ?_⟩ <;> try (exfalso; first | omega | exact absurd h (by decide) | exact h rfl | exact absurd (show true = false from h) (by decide) | exact absurd (show false = true from h) (by decide))) | (refine ⟨_, amount_h, (due, ((j + 1 : Nat) : Int)), h1, leVs_of_eq rfl, .inl rfl, rfl, ?_⟩; show norm (.tup [I (posAt due ((j + 1 : Nat) : Int)), B (hasO due ((j + 1 : Nat) : Int))]) _; rw [d1]) | (refine ⟨_, amount_h, (rec, ((j + 1 : Nat) : Int)), h2, leVs_of_eq rfl, .inl rfl, rfl, ?_⟩; show norm (.tup [I (posAt rec ((j + 1 : Nat) : Int)), B (hasO rec ((j + 1 : Nat) : Int))]) _; rw [d2]) | (refine ⟨(j + 1, _), ⟨?_, by (try dsimp only); omega⟩, [], ⟨⟨rfl, rfl⟩, ⟨⟨rfl, rfl⟩, ⟨⟨rfl, rfl⟩, ⟨⟨rfl, rfl⟩, trivial⟩⟩⟩⟩, ⟨⟨rfl, rfl, rfl⟩, trivial⟩, rfl, rfl, rfl⟩; (try dsimp only); exact ⟨by omega, by rw [hst, if_neg Bool.false_ne_true]⟩) | (refine ⟨⟨by first | omega | (simp only [List.length_nil]; omega) | (simp only [List.length_cons, List.length_nil]; omega), by first | omega | (simp only [List.length_nil]; omega) | (simp only [List.length_cons, List.length_nil]; omega)⟩, ?_⟩) | refine ⟨⟨by omega, by omega⟩, ?_⟩ | fail)
  · have hj8 : j = 8 := by omega
    subst hj8
    repeat' ((conv => whnf); first | (refine ⟨fun h => ?_, fun h => ?_⟩ <;> try (exfalso; first | omega | exact absurd h (by decide) | exact h rfl | exact absurd (show true = false from h) (by decide) | exact absurd (show false = true from h) (by decide))) | fail | fail)
    all_goals (refine ⟨[], rfl, trivial, ?_⟩; show leV (L 2 _) (L 2 ((posL due rec).map encS)); exact leV_refl _)
theorem rposit_h : Holds Tryz.prog 30 rpositS := holds_of mix Tryz.func30 rpositLow (fun _ => rfl) rpositV

end Go.Proofs.YtpkhannkbafimaaGreat
