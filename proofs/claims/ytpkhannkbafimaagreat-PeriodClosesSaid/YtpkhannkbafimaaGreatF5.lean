/- Netting: the positions that are not 0. -/
import Derived.Test.YtpkhannkbafimaaGreatF4
import Derived.Test.YtpkhannkbafimaaGreatP8
namespace Go.Proofs.YtpkhannkbafimaaGreat
open Go.RowKit

/-! skiarea/netting.needed$1 -/
def iszIr : IFn := ⟨6, [.tmp 2],
 (.seq (.ops [
 ⟨(some 1), .box, [.tmp 0], none⟩,
 ⟨(some 2), .mov, [.const (.bool false)], none⟩] false)
 (.seq (.ops [
 ⟨(some 3), .faddr 1, [.tmp 1], none⟩,
 ⟨(some 4), .load 1 false, [.tmp 3], none⟩,
 ⟨(some 5), .cmp .eql, [.tmp 4, .const (.int .i64 0)], none⟩,
 ⟨(some 2), .mov, [.tmp 5], none⟩] false)
 .ret))⟩
theorem iszLow : lowF Tryz.prog {} Tryz.f95 = some iszIr := by kernel_rfl
def iszS : Spec := spec Share (fun x => [aS x]) (fun _ => True) (fun x => B (isZ x))
theorem iszV : fnV Tryz.prog iszIr iszS := by
  intro (x : Share) hx
  show vc _ _ _ _ ⟨argEnv 0 [aS x], [], 0⟩
  repeat' ((conv => whnf); first | (refine ⟨fun h => ?_, fun h => ?_⟩ <;> try (exfalso; first | omega | exact absurd h (by decide) | exact h rfl)) | refine ⟨[], rfl, trivial, congrArg CV.bool ?_⟩ | fail)
  all_goals first | exact (decide_eq_true (by assumption)).symm | exact (decide_eq_false (by assumption)).symm
theorem isz_h : Holds Tryz.prog 95 iszS := holds_of mix Tryz.func95 iszLow (fun _ => rfl) iszV

/-! skiarea/netting.settle$1 -/
def isnIr : IFn := ⟨6, [.tmp 2],
 (.seq (.ops [
 ⟨(some 1), .box, [.tmp 0], none⟩,
 ⟨(some 2), .mov, [.const (.bool false)], none⟩] false)
 (.seq (.ops [
 ⟨(some 3), .faddr 1, [.tmp 1], none⟩,
 ⟨(some 4), .load 1 false, [.tmp 3], none⟩,
 ⟨(some 5), .cmp .lss, [.tmp 4, .const (.int .i64 0)], none⟩,
 ⟨(some 2), .mov, [.tmp 5], none⟩] false)
 .ret))⟩
theorem isnLow : lowF Tryz.prog {} Tryz.f114 = some isnIr := by kernel_rfl
def isnS : Spec := spec Share (fun x => [aS x]) (fun _ => True) (fun x => B (neg x))
theorem isnV : fnV Tryz.prog isnIr isnS := by
  intro (x : Share) hx
  show vc _ _ _ _ ⟨argEnv 0 [aS x], [], 0⟩
  repeat' ((conv => whnf); first | (refine ⟨fun h => ?_, fun h => ?_⟩ <;> try (exfalso; first | omega | exact absurd h (by decide) | exact h rfl)) | refine ⟨[], rfl, trivial, congrArg CV.bool ?_⟩ | fail)
  all_goals first | exact (decide_eq_true (by assumption)).symm | exact (decide_eq_false (by assumption)).symm
theorem isn_h : Holds Tryz.prog 114 isnS := holds_of mix Tryz.func114 isnLow (fun _ => rfl) isnV

/-! skiarea/netting.settle$2 -/
def ispIr : IFn := ⟨6, [.tmp 2],
 (.seq (.ops [
 ⟨(some 1), .box, [.tmp 0], none⟩,
 ⟨(some 2), .mov, [.const (.bool false)], none⟩] false)
 (.seq (.ops [
 ⟨(some 3), .faddr 1, [.tmp 1], none⟩,
 ⟨(some 4), .load 1 false, [.tmp 3], none⟩,
 ⟨(some 5), .cmp .gtr, [.tmp 4, .const (.int .i64 0)], none⟩,
 ⟨(some 2), .mov, [.tmp 5], none⟩] false)
 .ret))⟩
theorem ispLow : lowF Tryz.prog {} Tryz.f115 = some ispIr := by kernel_rfl
def ispS : Spec := spec Share (fun x => [aS x]) (fun _ => True) (fun x => B (pos' x))
theorem ispV : fnV Tryz.prog ispIr ispS := by
  intro (x : Share) hx
  show vc _ _ _ _ ⟨argEnv 0 [aS x], [], 0⟩
  repeat' ((conv => whnf); first | (refine ⟨fun h => ?_, fun h => ?_⟩ <;> try (exfalso; first | omega | exact absurd h (by decide) | exact h rfl)) | refine ⟨[], rfl, trivial, congrArg CV.bool ?_⟩ | fail)
  all_goals first | exact (decide_eq_true (by assumption)).symm | exact (decide_eq_false (by assumption)).symm
theorem isp_h : Holds Tryz.prog 115 ispS := holds_of mix Tryz.func115 ispLow (fun _ => rfl) ispV

/-! slices.IndexFunc[[]skiarea/api.Share,skiarea/api.Share]: whatever the function that is handed to it -/
def idxIr : IFn := ⟨19, [.tmp 4],
 (.seq (.ops [
 ⟨(some 4), .mov, [.const (.int .i64 0)], none⟩] false)
 (.seq (.seq (.ops [
 ⟨(some 6), .mov, [.tmp 0], none⟩,
 ⟨(some 7), .len, [.tmp 6], none⟩,
 ⟨(some 8), .mov, [.const (.int .i64 0)], none⟩] false)
 (.block 0
 (.loop
 (.seq (.ops [
 ⟨(some 9), .cmp .lss, [.tmp 8, .tmp 7], none⟩] false)
 (.seq (.cond (.tmp 9)
 .skip
 (.exit 0))
 (.seq (.block 1
 (.seq (.ops [
 ⟨(some 10), .mov, [.tmp 8], none⟩,
 ⟨(some 5), .mov, [.tmp 10], none⟩] false)
 (.seq (.ops [
 ⟨(some 11), .mov, [.tmp 1], none⟩,
 ⟨(some 12), .mov, [.tmp 0], none⟩,
 ⟨(some 13), .mov, [.tmp 5], none⟩,
 ⟨(some 14), .idx 2, [.tmp 12, .tmp 13], none⟩,
 ⟨(some 15), .load 2 true, [.tmp 14], none⟩,
 ⟨(some 16), .callv, [.tmp 11, .tmp 15], none⟩] false)
 (.cond (.tmp 16)
 (.seq (.ops [
 ⟨(some 17), .mov, [.tmp 5], none⟩,
 ⟨(some 4), .mov, [.tmp 17], none⟩] false)
 .ret)
 .skip))))
 (.ops [
 ⟨(some 18), .bin .add .i64 false, [.tmp 8, .const (.int .i64 1)], none⟩,
 ⟨(some 8), .mov, [.tmp 18], none⟩] false)))))))
 (.seq (.ops [
 ⟨(some 4), .mov, [.const (.int .i64 (-1))], none⟩] false)
 .ret)))⟩
theorem idxLow : lowF Tryz.prog {} Tryz.f113 = some idxIr := by kernel_rfl
abbrev predS (p : Share → Bool) : Spec := spec Share (fun x => [aS x]) (fun _ => True) (fun x => B (p x))
def idxS (g : Nat) (p : Share → Bool) : Spec := spec (List Share) (fun l => [L 2 (l.map encS), .fn g []]) (fun l => l.length ≤ 1000) (fun l => I (idxI p l))
theorem idxV {g : Nat} {p : Share → Bool} (hc : callable Tryz.prog g = true) (hg : Holds Tryz.prog g (predS p)) : fnV Tryz.prog idxIr (idxS g p) := by
  intro (l : List Share) hx
  replace hx : l.length ≤ 1000 := hx
  show vc _ _ _ _ ⟨argEnv 0 [L 2 (l.map encS), .fn g []], [], 0⟩
  have hl : (l.map encS).length = l.length := List.length_map ..
  conv => whnf
  refine ⟨Nat, fun xq => ⟨[(0, L 2 (l.map encS)), (1, .fn g []), (7, I (l.map encS).length), (8, I xq)], [], 0⟩, fun xq => xq ≤ l.length ∧ ∀ y ∈ l.take xq, p y = false, fun xq => l.length - xq, ⟨0, ?_, [], ⟨⟨rfl, rfl⟩, ⟨⟨rfl, rfl⟩, ⟨⟨rfl, rfl⟩, ⟨⟨rfl, rfl⟩, trivial⟩⟩⟩⟩, trivial, rfl, rfl, rfl⟩, ?_⟩
  · (try dsimp only); exact ⟨Nat.zero_le _, by simp⟩
  rintro k hk
  obtain ⟨hk, hn⟩ : k ≤ l.length ∧ ∀ y ∈ l.take k, p y = false := hk
  (try dsimp only)
  by_cases hkl : k < l.length
  · obtain ⟨x, hx⟩ := getElem_some hkl
    cases hp : p x with
    | true =>
      have hf := firstI_at hx hn hp
      repeat' ((conv => whnf); first | (refine ⟨fun h => ?_, fun h => ?_⟩ <;> try (exfalso; first | omega | exact absurd h (by decide) | exact h rfl)) | (refine ⟨by omega, fun r hrr => ?_⟩; obtain rfl := get_row hrr hx) | (refine ⟨hc, _, hg, x, trivial, leVs_of_eq rfl, .inr rfl, rfl, ?_⟩; show norm (B (p x)) _; rw [hp]) | refine ⟨[], rfl, trivial, congrArg (CV.int .i64) ?_⟩ | fail)
      all_goals (unfold idxI; rw [hf])
    | false =>
      repeat' ((conv => whnf); first | (refine ⟨k + 1, ⟨?_, by (try dsimp only); omega⟩, [], ⟨⟨rfl, rfl⟩, ⟨⟨rfl, rfl⟩, ⟨⟨rfl, rfl⟩, ⟨⟨rfl, rfl⟩, trivial⟩⟩⟩⟩, trivial, rfl, rfl, rfl⟩; (try dsimp only); exact ⟨by omega, all_step hx hn hp⟩) | (refine ⟨fun h => ?_, fun h => ?_⟩ <;> try (exfalso; first | omega | exact absurd h (by decide) | exact h rfl)) | (refine ⟨by omega, fun r hrr => ?_⟩; obtain rfl := get_row hrr hx) | (refine ⟨hc, _, hg, x, trivial, leVs_of_eq rfl, .inr rfl, rfl, ?_⟩; show norm (B (p x)) _; rw [hp]) | refine ⟨⟨by omega, by omega⟩, ?_⟩ | fail)
  · rw [take_end hkl] at hn
    repeat' ((conv => whnf); first | (refine ⟨fun h => ?_, fun h => ?_⟩ <;> try (exfalso; first | omega | exact absurd h (by decide) | exact h rfl)) | refine ⟨[], rfl, trivial, congrArg (CV.int .i64) ?_⟩ | fail)
    all_goals (unfold idxI; rw [firstI_all hn])
theorem idx_h {g : Nat} {p : Share → Bool} (hc : callable Tryz.prog g = true) (hg : Holds Tryz.prog g (predS p)) : Holds Tryz.prog 113 (idxS g p) := holds_of mix Tryz.func113 idxLow (fun _ => rfl) (idxV hc hg)
theorem cz : callable Tryz.prog 95 = true := by kernel_rfl
theorem cn : callable Tryz.prog 114 = true := by kernel_rfl
theorem cp : callable Tryz.prog 115 = true := by kernel_rfl

/-! slices.Clone[[]skiarea/api.Share,skiarea/api.Share] -/
def cloneIr : IFn := ⟨8, [.tmp 2],
 (.seq (.ops [
 ⟨(some 2), .nilOwn 58 2, [], none⟩] false)
 (.seq (.seq (.ops [
 ⟨(some 3), .mov, [.tmp 0], none⟩,
 ⟨(some 4), .isnil false, [.tmp 3], none⟩] false)
 (.cond (.tmp 4)
 (.seq (.ops [
 ⟨(some 2), .nilOwn 58 2, [], none⟩] false)
 .ret)
 .skip))
 (.seq (.ops [
 ⟨(some 5), .buildOwn 58 2, [], none⟩,
 ⟨(some 6), .mov, [.tmp 0], none⟩,
 ⟨(some 7), .append 58 2 16, [.tmp 5, .tmp 6], none⟩,
 ⟨(some 2), .mov, [.tmp 7], none⟩] false)
 .ret)))⟩
theorem cloneLow : lowF Tryz.prog { owns := [(2, 58), (5, 58)] } Tryz.f66 = some cloneIr := by kernel_rfl
def cloneS : Spec := ⟨List Share, fun l => [L 2 (l.map encS)], fun l => l.length ≤ 1000000, fun _ => .osl 0, fun l => [.row 58 2 (l.map encS)]⟩
theorem cloneV : fnV Tryz.prog cloneIr cloneS := by
  intro (xs : List Share) (hx : xs.length ≤ 1000000)
  have hl : (xs.map encS).length = xs.length := List.length_map ..
  conv => whnf
  refine ⟨fun h => ?_, ?_⟩
  · conv => whnf
    refine ⟨[1], rfl, ⟨⟨?_, _, _, _, rfl⟩, trivial⟩, ?_⟩
    · show some (Ob.row 58 2 []) = some (Ob.row 58 2 (xs.map encS))
      rw [h]
    · rfl
  · conv => whnf
    refine ⟨⟨by simp; omega, by simp; omega⟩, ?_⟩
    conv => whnf
    exact ⟨[2], rfl, ⟨⟨rfl, _, _, _, rfl⟩, trivial⟩, rfl⟩
theorem clone_h : Holds Tryz.prog 66 cloneS := holds_of mix Tryz.func66 cloneLow (fun _ => rfl) cloneV

/-! slices.DeleteFunc[[]skiarea/api.Share,skiarea/api.Share] -/
def delIr : IFn := ⟨42, [.tmp 4],
 (.seq (.ops [
 ⟨(some 4), .mov, [.const (.slice none 0 0)], none⟩] false)
 (.seq (.ops [
 ⟨(some 8), .mov, [.tmp 0], none⟩,
 ⟨(some 9), .mov, [.tmp 1], none⟩,
 ⟨(some 10), .call 113, [.tmp 8, .tmp 9], none⟩,
 ⟨(some 5), .mov, [.tmp 10], none⟩] false)
 (.seq (.seq (.ops [
 ⟨(some 11), .mov, [.tmp 5], none⟩,
 ⟨(some 12), .cmp .eql, [.tmp 11, .const (.int .i64 (-1))], none⟩] false)
 (.cond (.tmp 12)
 (.seq (.ops [
 ⟨(some 13), .mov, [.tmp 0], none⟩,
 ⟨(some 4), .mov, [.tmp 13], none⟩] false)
 .ret)
 .skip))
 (.seq (.seq (.ops [
 ⟨(some 14), .mov, [.tmp 5], none⟩,
 ⟨(some 15), .bin .add .i64 false, [.tmp 14, .const (.int .i64 1)], none⟩,
 ⟨(some 6), .mov, [.tmp 15], none⟩] false)
 (.block 0
 (.loop
 (.seq (.seq (.ops [
 ⟨(some 16), .mov, [.tmp 6], none⟩,
 ⟨(some 17), .mov, [.tmp 0], none⟩,
 ⟨(some 18), .len, [.tmp 17], none⟩,
 ⟨(some 19), .cmp .lss, [.tmp 16, .tmp 18], none⟩] false)
 (.cond (.tmp 19)
 .skip
 (.exit 0)))
 (.seq (.block 1
 (.seq (.ops [
 ⟨(some 22), .mov, [.tmp 0], none⟩,
 ⟨(some 23), .mov, [.tmp 6], none⟩,
 ⟨(some 24), .idx 2, [.tmp 22, .tmp 23], none⟩,
 ⟨(some 25), .load 2 true, [.tmp 24], none⟩,
 ⟨(some 7), .alloc [.int .i64 0, .int .i64 0], [], none⟩,
 ⟨none, .store 2, [.tmp 7, .tmp 25], none⟩] false)
 (.seq (.ops [
 ⟨(some 26), .mov, [.tmp 1], none⟩,
 ⟨(some 27), .load 2 true, [.tmp 7], none⟩,
 ⟨(some 28), .callv, [.tmp 26, .tmp 27], none⟩,
 ⟨(some 29), .not, [.tmp 28], none⟩] false)
 (.cond (.tmp 29)
 (.seq (.ops [
 ⟨(some 30), .mov, [.tmp 0], none⟩,
 ⟨(some 31), .mov, [.tmp 5], none⟩,
 ⟨(some 32), .load 2 true, [.tmp 7], none⟩,
 ⟨(some 33), .idx 2, [.tmp 30, .tmp 31], none⟩,
 ⟨none, .store 2, [.tmp 33, .tmp 32], none⟩] false)
 (.ops [
 ⟨(some 34), .mov, [.tmp 5], none⟩,
 ⟨(some 35), .bin .add .i64 false, [.tmp 34, .const (.int .i64 1)], none⟩,
 ⟨(some 5), .mov, [.tmp 35], none⟩] false))
 .skip))))
 (.ops [
 ⟨(some 20), .mov, [.tmp 6], none⟩,
 ⟨(some 21), .bin .add .i64 false, [.tmp 20, .const (.int .i64 1)], none⟩,
 ⟨(some 6), .mov, [.tmp 21], none⟩] false))))))
 (.seq (.ops [
 ⟨(some 36), .mov, [.tmp 0], none⟩,
 ⟨(some 37), .mov, [.tmp 5], none⟩,
 ⟨(some 38), .subo 2, [.tmp 36, .tmp 37], none⟩,
 ⟨none, .clr 2 [.int .i64 0, .int .i64 0], [.tmp 38], none⟩] false)
 (.seq (.ops [
 ⟨(some 39), .mov, [.tmp 0], none⟩,
 ⟨(some 40), .mov, [.tmp 5], none⟩,
 ⟨(some 41), .sliceF 2 false true, [.tmp 39, .tmp 40], none⟩,
 ⟨(some 4), .mov, [.tmp 41], none⟩] false)
 .ret))))))⟩
theorem delLow : lowF Tryz.prog { tls := [38], frz := [41] } Tryz.f94 = some delIr := by kernel_rfl
def delAS : GSpec := ⟨List Share, fun l => [.row 58 2 (l.map encS)], fun _ => [.osl 0, .fn 95 []], fun l => l.length ≤ 1000 ∧ firstI isZ l = none, fun _ => .osl 0, fun l => [.row 58 2 (l.map encS)], fun _ => []⟩
def delBS : GSpec := ⟨List Share, fun l => [.row 58 2 (l.map encS)], fun _ => [.osl 0, .fn 95 []], fun l => l.length ≤ 1000 ∧ ∃ i x, firstI isZ l = some (i, x), fun l => L 2 ((nzl l).map encS), fun _ => [.dead], fun _ => []⟩
theorem delAV : fnG Tryz.prog delIr delAS := by
  intro (l : List Share) hx
  obtain ⟨hlen, hf⟩ : l.length ≤ 1000 ∧ firstI isZ l = none := hx
  show vc _ _ _ _ ⟨argEnv 0 [.osl 0, .fn 95 []], idxFrom 0 [.row 58 2 (l.map encS)], 1⟩
  have hi : idxI isZ l = -1 := by unfold idxI; rw [hf]
  conv => whnf
  (refine ⟨_, idx_h cz isz_h, l, (by show l.length ≤ 1000; omega), leVs_of_eq rfl, .inr rfl, rfl, ?_⟩; show norm (I (idxI isZ l)) _)
  rw [hi]
  conv => whnf
  refine ⟨fun h => ?_, fun h => absurd rfl h⟩
  conv => whnf
  exact ⟨[], rfl, rfl, ⟨⟨rfl, rfl⟩, trivial⟩, rfl, rfl⟩
theorem delBV : fnG Tryz.prog delIr delBS := by
  intro (l : List Share) hx
  obtain ⟨hlen, i0, x0, hf⟩ : l.length ≤ 1000 ∧ ∃ i x, firstI isZ l = some (i, x) := hx
  show vc _ _ _ _ ⟨argEnv 0 [.osl 0, .fn 95 []], idxFrom 0 [.row 58 2 (l.map encS)], 1⟩
  have hi : idxI isZ l = (i0 : Int) := by unfold idxI; rw [hf]
  have h0 := (List.getElem?_eq_some_iff.1 (firstI_get hf).1).1
  conv => whnf
  (refine ⟨_, idx_h cz isz_h, l, (by show l.length ≤ 1000; omega), leVs_of_eq rfl, .inr rfl, rfl, ?_⟩; show norm (I (idxI isZ l)) _)
  rw [hi]
  conv => whnf
  refine ⟨fun h => absurd h (by omega), fun h => ?_⟩
  conv => whnf
  refine ⟨⟨by omega, by omega⟩, ?_⟩
  conv => whnf
  refine ⟨Nat × Nat × (List (List CV)), fun xq => ⟨[(0, .osl 0), (1, .fn 95 []), (5, I xq.2.1), (6, I xq.1)], [(0, .row 58 2 xq.2.2)], 1⟩, fun xq => Del l xq.2.1 xq.1 xq.2.2 encS ∧ True, fun xq => l.length - xq.1, ⟨(i0 + 1, i0, _), ?_, [], ⟨⟨rfl, rfl⟩, ⟨⟨rfl, rfl⟩, ⟨⟨rfl, rfl⟩, ⟨⟨rfl, rfl⟩, trivial⟩⟩⟩⟩, ⟨⟨rfl, rfl, rfl⟩, trivial⟩, rfl, rfl, rfl⟩, ?_⟩
  · (try dsimp only); exact ⟨Del.start (fun _ => rfl) hf, trivial⟩
  rintro ⟨k, i, es⟩ hk
  obtain ⟨hD, _⟩ : Del l i k es encS ∧ True := hk
  (try dsimp only)
  have hel := hD.len
  have hkl0 := hD.le
  have hik := hD.lt
  by_cases hkl : k < l.length
  · obtain ⟨x, hx⟩ := getElem_some hkl
    have g1 : es[(k : Int).toNat]? = some (encS x) := by rw [Int.toNat_natCast, hD.rest k (Nat.le_refl _), hx]; rfl
    obtain ⟨ri, hri⟩ := getElem_some (xs := es) (k := i) (by omega)
    have g2 : es[(i : Int).toNat]? = some ri := by rw [Int.toNat_natCast]; exact hri
    cases hz : isZ x with
    | true =>
      have hz' : x.a = 0 := by simpa [isZ] using hz
      repeat' ((conv => whnf); first | (refine ⟨(k + 1, i, _), ⟨?_, by (try dsimp only); omega⟩, [], ⟨⟨rfl, rfl⟩, ⟨⟨rfl, rfl⟩, ⟨⟨rfl, rfl⟩, ⟨⟨rfl, rfl⟩, trivial⟩⟩⟩⟩, ⟨⟨rfl, rfl, rfl⟩, trivial⟩, rfl, rfl, rfl⟩; (try dsimp only); exact ⟨hD.skip hx hz', trivial⟩) | (refine ⟨fun h => ?_, fun h => ?_⟩ <;> try (exfalso; first | omega | exact absurd h (by decide) | exact h rfl)) | refine get_at g1 ?_ | (refine ⟨cz, _, isz_h, x, trivial, leVs_of_eq rfl, .inr rfl, rfl, ?_⟩; show norm (B (isZ x)) _; rw [hz]) | (refine ⟨⟨by omega, by omega⟩, ?_⟩) | fail)
    | false =>
      have hz' : x.a ≠ 0 := by simpa [isZ] using hz
      obtain ⟨ra, rb, rfl⟩ := two (hD.rows ri (List.mem_of_getElem? hri))
      repeat' ((conv => whnf); first | (refine ⟨(k + 1, i + 1, _), ⟨?_, by (try dsimp only); omega⟩, [], ⟨⟨rfl, rfl⟩, ⟨⟨rfl, rfl⟩, ⟨⟨rfl, rfl⟩, ⟨⟨rfl, rfl⟩, trivial⟩⟩⟩⟩, ⟨⟨rfl, rfl, rfl⟩, trivial⟩, rfl, rfl, rfl⟩; (try dsimp only); exact ⟨hD.keep (fun _ => rfl) hx hz', trivial⟩) | (refine ⟨fun h => ?_, fun h => ?_⟩ <;> try (exfalso; first | omega | exact absurd h (by decide) | exact h rfl)) | refine get_at g1 ?_ | (refine ⟨cz, _, isz_h, x, trivial, leVs_of_eq rfl, .inr rfl, rfl, ?_⟩; show norm (B (isZ x)) _; rw [hz]) | refine get_at g2 ?_ | (refine ⟨⟨by omega, by omega⟩, ?_⟩) | fail)
  · conv => whnf
    refine ⟨fun h => absurd h (by omega), fun h => ?_⟩
    conv => whnf
    refine ⟨⟨by omega, by omega⟩, ?_⟩
    conv => whnf
    refine ⟨by omega, ?_⟩
    conv => whnf
    have hkk : k = l.length := by omega
    have hkept := hD.kept
    have hnum := hD.num
    rw [hkk, List.take_of_length_le (Nat.le_refl _)] at hkept hnum
    have hl' : (es.take i).length = i := by rw [List.length_take]; omega
    refine ⟨⟨by omega, by omega, by simp only [List.length_append, List.length_take, List.length_replicate]; omega⟩, ?_⟩
    conv => whnf
    refine ⟨[], rfl, rfl, trivial, ?_⟩
    show leV (L 2 (((es.take i ++ List.replicate (es.length - i) _).take i).drop 0)) (L 2 ((nzl l).map encS))
    rw [List.drop_zero, List.take_append_of_le_length (by omega), List.take_of_length_le (by omega), hkept]
    exact leV_refl _
theorem delA_g : HoldsG Tryz.prog 94 delAS := holdsG_of mix Tryz.func94 delLow (fun _ => rfl) delAV
theorem delB_g : HoldsG Tryz.prog 94 delBS := holdsG_of mix Tryz.func94 delLow (fun _ => rfl) delBV

/-! skiarea/netting.needed -/
def neededIr : IFn := ⟨9, [.tmp 2],
 (.seq (.ops [
 ⟨(some 2), .mov, [.const (.slice none 0 0)], none⟩] false)
 (.seq (.seq (.ops [
 ⟨(some 3), .mov, [.tmp 0], none⟩,
 ⟨(some 4), .call 75, [.tmp 3], none⟩,
 ⟨(some 5), .cmp .neq, [.tmp 4, .const (.int .i64 0)], none⟩] false)
 (.cond (.tmp 5)
 (.seq (.ops [
 ⟨(some 2), .mov, [.const (.slice none 0 0)], none⟩] false)
 .ret)
 .skip))
 (.seq (.ops [
 ⟨(some 6), .mov, [.tmp 0], none⟩,
 ⟨(some 7), .callo 66, [.tmp 6], none⟩,
 ⟨(some 8), .callg 94, [.tmp 7, .func 95], none⟩,
 ⟨(some 2), .mov, [.tmp 8], none⟩] false)
 .ret)))⟩
theorem neededLow : lowF Tryz.prog { gives := [7], gvs := [8] } Tryz.f68 = some neededIr := by kernel_rfl
def neededS : Spec := spec (List Share) (fun l => [L 2 (l.map encS)]) RightP (fun l => L 2 ((nzl l).map encS))
theorem neededV : fnV Tryz.prog neededIr neededS := by
  intro (l : List Share) hr
  have hr0 := right_iff.2 hr
  have hlen := hr.len
  show vc _ _ _ _ ⟨argEnv 0 [L 2 (l.map encS)], [], 0⟩
  repeat' ((conv => whnf); first | (refine ⟨fun h => ?_, fun h => ?_⟩ <;> try (exfalso; first | omega | exact absurd h (by decide) | exact h rfl)) | (refine ⟨_, right_h, l, (by show l.length ≤ _; omega), leVs_of_eq rfl, .inl rfl, rfl, ?_⟩; show norm (I (rightF l)) _; rw [hr0]) | fail)
  conv => whnf
  refine ⟨rfl, _, clone_h, l, (by show l.length ≤ _; omega), leVs_of_eq rfl, trivial, ?_⟩
  conv => whnf
  cases hf : firstI isZ l with
  | none =>
    refine ⟨[0], _, delA_g, l, ⟨by omega, hf⟩, ⟨⟨⟨rfl, rfl, rfl⟩, trivial⟩, rfl, rfl, rfl⟩, ⟨⟨rfl, rfl⟩, rfl, trivial⟩, .inl rfl, ⟨⟨⟨⟨rfl, rfl⟩, rfl⟩, trivial⟩, trivial⟩, ?_⟩
    conv => whnf
    refine ⟨[], rfl, trivial, ?_⟩
    show leV (L 2 (l.map encS)) (L 2 ((nzl l).map encS))
    rw [nzl_none (firstI_none hf)]
    exact leV_refl _
  | some q =>
    obtain ⟨i, x⟩ := q
    refine ⟨[0], _, delB_g, l, ⟨by omega, _, _, hf⟩, ⟨⟨⟨rfl, rfl, rfl⟩, trivial⟩, rfl, rfl, rfl⟩, ⟨⟨rfl, rfl⟩, rfl, trivial⟩, .inl rfl, ⟨⟨trivial, trivial⟩, trivial⟩, ?_⟩
    conv => whnf
    refine ⟨[], rfl, trivial, ?_⟩
    show leV (L 2 ((nzl l).map encS)) (L 2 ((nzl l).map encS))
    exact leV_refl _
theorem needed_h : Holds Tryz.prog 68 neededS := holds_of mix Tryz.func68 neededLow (fun _ => rfl) neededV

/-! skiarea/skiarearef37.open -/
def opnIr : IFn := ⟨25, [.tmp 2],
 (.seq (.ops [
 ⟨(some 2), .mov, [.const (.slice none 0 0)], none⟩] false)
 (.seq (.ops [
 ⟨(some 3), .nilOwn 58 2, [], none⟩] false)
 (.seq (.seq (.ops [
 ⟨(some 4), .mov, [.const (.int .i64 0)], none⟩] false)
 (.block 0
 (.loop
 (.seq (.seq (.ops [
 ⟨(some 5), .mov, [.tmp 4], none⟩,
 ⟨(some 6), .mov, [.tmp 0], none⟩,
 ⟨(some 7), .len, [.tmp 6], none⟩,
 ⟨(some 8), .cmp .lss, [.tmp 5, .tmp 7], none⟩] false)
 (.cond (.tmp 8)
 .skip
 (.exit 0)))
 (.seq (.block 1
 (.seq (.ops [
 ⟨(some 11), .mov, [.tmp 0], none⟩,
 ⟨(some 12), .mov, [.tmp 4], none⟩,
 ⟨(some 13), .idx 2, [.tmp 11, .tmp 12], none⟩,
 ⟨(some 14), .faddr 1, [.tmp 13], none⟩,
 ⟨(some 15), .load 1 false, [.tmp 14], none⟩,
 ⟨(some 16), .cmp .neq, [.tmp 15, .const (.int .i64 0)], none⟩] false)
 (.cond (.tmp 16)
 (.ops [
 ⟨(some 17), .mov, [.tmp 3], none⟩,
 ⟨(some 18), .mov, [.tmp 0], none⟩,
 ⟨(some 19), .mov, [.tmp 4], none⟩,
 ⟨(some 20), .idx 2, [.tmp 18, .tmp 19], none⟩,
 ⟨(some 21), .load 2 true, [.tmp 20], none⟩,
 ⟨(some 22), .buildSl 58 2, [.tmp 21], none⟩,
 ⟨(some 23), .append 58 2 16, [.tmp 17, .tmp 22], none⟩,
 ⟨(some 3), .mov, [.tmp 23], none⟩] false)
 .skip)))
 (.ops [
 ⟨(some 9), .mov, [.tmp 4], none⟩,
 ⟨(some 10), .bin .add .i64 false, [.tmp 9, .const (.int .i64 1)], none⟩,
 ⟨(some 4), .mov, [.tmp 10], none⟩] false))))))
 (.seq (.ops [
 ⟨(some 24), .mov, [.tmp 3], none⟩,
 ⟨(some 2), .mov, [.tmp 24], none⟩] false)
 .ret))))⟩
theorem opnLow : lowF Tryz.prog { owns := [(3, 58)] } Tryz.f96 = some opnIr := by kernel_rfl
def opnS : Spec := spec (List Share) (fun l => [L 2 (l.map encS)]) (fun l => l.length ≤ 1000) (fun l => L 2 ((nzl l).map encS))
theorem opnV : fnV Tryz.prog opnIr opnS := by
  intro (l : List Share) hx
  replace hx : l.length ≤ 1000 := hx
  show vc _ _ _ _ ⟨argEnv 0 [L 2 (l.map encS)], [], 0⟩
  have hl : (l.map encS).length = l.length := List.length_map ..
  conv => whnf
  refine ⟨Nat × (List (List CV)), fun xq => ⟨[(0, L 2 (l.map encS)), (3, .osl 0), (4, I xq.1)], [(0, .row 58 2 xq.2)], 1⟩, fun xq => xq.1 ≤ l.length ∧ xq.2 = (nzl (l.take xq.1)).map encS, fun xq => l.length - xq.1, ⟨(0, _), ?_, [], ⟨⟨rfl, rfl⟩, ⟨⟨rfl, rfl⟩, ⟨⟨rfl, rfl⟩, trivial⟩⟩⟩, ⟨⟨rfl, rfl, rfl⟩, trivial⟩, rfl, rfl, rfl⟩, ?_⟩
  · (try dsimp only); exact ⟨Nat.zero_le _, rfl⟩
  rintro ⟨k, es⟩ hk
  obtain ⟨hk, rfl⟩ : k ≤ l.length ∧ es = (nzl (l.take k)).map encS := hk
  (try dsimp only)
  have hlo : ((nzl (l.take k)).map encS).length = (nzl (l.take k)).length := List.length_map ..
  have hfl : (nzl (l.take k)).length ≤ l.length := Nat.le_trans (List.length_filter_le _ _) (by simp; omega)
  by_cases hkl : k < l.length
  · obtain ⟨x, hx⟩ := getElem_some hkl
    have hy := nzl_take_yes hx
    have hn := nzl_take_no hx
    generalize nzl (l.take k) = out at *
    by_cases hz : x.a = 0
    · repeat' ((conv => whnf); first | (refine ⟨(k + 1, _), ⟨?_, by (try dsimp only); omega⟩, [], ⟨⟨rfl, rfl⟩, ⟨⟨rfl, rfl⟩, ⟨⟨rfl, rfl⟩, trivial⟩⟩⟩, ⟨⟨rfl, rfl, rfl⟩, trivial⟩, rfl, rfl, rfl⟩; (try dsimp only); exact ⟨by omega, by rw [hn hz]⟩) | (refine ⟨fun h => ?_, fun h => ?_⟩ <;> try (exfalso; first | omega | exact absurd h (by decide) | exact h rfl)) | (refine ⟨by omega, fun r hrr => ?_⟩; obtain rfl := get_row hrr hx) | refine ⟨⟨by omega, by omega⟩, ?_⟩ | fail)
    · repeat' ((conv => whnf); first | (refine ⟨(k + 1, _), ⟨?_, by (try dsimp only); omega⟩, [(0, 1)], ⟨⟨rfl, rfl⟩, ⟨⟨rfl, rfl⟩, ⟨⟨rfl, rfl⟩, trivial⟩⟩⟩, ⟨⟨rfl, rfl, rfl⟩, trivial⟩, rfl, rfl, rfl⟩; (try dsimp only); exact ⟨by omega, by rw [hy hz, List.map_append]; rfl⟩) | (refine ⟨fun h => ?_, fun h => ?_⟩ <;> try (exfalso; first | omega | exact absurd h (by decide) | exact h rfl)) | (refine ⟨by omega, fun r hrr => ?_⟩; obtain rfl := get_row hrr hx) | (refine ⟨⟨by rw [hlo]; simp only [List.length_cons, List.length_nil]; omega, by rw [hlo]; simp only [List.length_cons, List.length_nil]; omega⟩, ?_⟩) | refine ⟨⟨by omega, by omega⟩, ?_⟩ | fail)
  · rw [take_end hkl]
    repeat' ((conv => whnf); first | (refine ⟨fun h => ?_, fun h => ?_⟩ <;> try (exfalso; first | omega | exact absurd h (by decide) | exact h rfl)) | fail)
    conv => whnf
    refine ⟨[], rfl, trivial, ?_⟩
    show leV (L 2 ((nzl l).map encS)) (L 2 ((nzl l).map encS))
    exact leV_refl _
theorem opn_h : Holds Tryz.prog 96 opnS := holds_of mix Tryz.func96 opnLow (fun _ => rfl) opnV

end Go.Proofs.YtpkhannkbafimaaGreat
