/- Periods: balances; the postings of a period. -/
import Derived.Test.YtpkhannkbafimaaGreatRN
namespace Go.Proofs.YtpkhannkbafimaaGreat
open Go.RowKit
/-- What is posted to an account, and from it. -/
def toA (l : List Pst) (v : Int) : Int := (l.map fun y => if y.to = v then y.am else 0).sum
def frA (l : List Pst) (v : Int) : Int := (l.map fun y => if y.fr = v then y.am else 0).sum
def balA (l : List Pst) (v : Int) : Int := toA l v - frA l v
/-- The postings of the transfers of a period. -/
def refsF (n : Int) : Nat → List Tfer → List Pst
  | _, [] => []
  | i, t :: r => refP n i t :: refsF n (i + 1) r
theorem refsF_len (n : Int) : ∀ (T : List Tfer) (i : Nat), (refsF n i T).length = T.length
  | [], _ => rfl
  | _ :: r, i => congrArg (· + 1) (refsF_len n r (i + 1))
theorem refsF_get (n : Int) : ∀ (T : List Tfer) (i k : Nat), (refsF n i T)[k]? = T[k]?.map (refP n (i + k))
  | [], _, _ => by simp [refsF]
  | t :: r, i, 0 => rfl
  | t :: r, i, k + 1 => by
    show (refsF n (i + 1) r)[k]? = r[k]?.map _
    rw [refsF_get n r (i + 1) k, show i + 1 + k = i + (k + 1) by omega]
theorem postAll_refs {n : Int} : ∀ (T : List Tfer) (i : Nat) (po : List Pst), (∀ y ∈ po, ∀ j : Nat, i ≤ j → j < i + T.length → y.ref ≠ n * 100 + j + 1) → (postAll n i T po).2 = 0 → (postAll n i T po).1 = po ++ refsF n i T
  | [], _, po, _, _ => (List.append_nil po).symm
  | t :: r, i, po, hn, h2 => by
    obtain ⟨q1, q2⟩ := postAll_cons h2
    have hnot : refP n i t ∉ po := fun hm => hn _ hm i (Nat.le_refl i) (by rw [List.length_cons]; omega) rfl
    have hadd : addF po (refP n i t) = po ++ [refP n i t] := if_neg hnot
    have q5 := (postF_led q1).2.2
    rw [hadd] at q5
    rw [q2] at h2 ⊢
    rw [q5] at h2 ⊢
    rw [postAll_refs r (i + 1) _ (fun y hy j h1 hj => ?_) h2, List.append_assoc]
    · rfl
    · rcases List.mem_append.1 hy with hy | hy
      · exact hn y hy j (by omega) (by rw [List.length_cons]; omega)
      · rw [List.mem_singleton.1 hy]
        show n * 100 + i + 1 ≠ n * 100 + j + 1
        omega
/-- Is there a posting with one of the refs of a period's transfers? -/
def takenB (l : List Pst) (n : Int) : Bool := l.any fun y => decide (IntKind.wrap .i64 (n * 100) < y.ref) && decide (y.ref ≤ IntKind.wrap .i64 (IntKind.wrap .i64 (n * 100) + 8))
theorem taken_no {l : List Pst} {n : Int} (h : takenB l n = false) (h1 : 1 ≤ n) (h2 : n ≤ 1000) : ∀ y ∈ l, ∀ j : Nat, j < 8 → y.ref ≠ n * 100 + j + 1 := by
  intro y hy j hj e
  have h0 := List.any_eq_false.1 h y hy
  rw [wrap_small (by omega) (by omega), wrap_small (by omega) (by omega)] at h0
  exact h0 (by rw [Bool.and_eq_true]; exact ⟨decide_eq_true (by omega), decide_eq_true (by omega)⟩)
/-- What Close leaves when no ref is taken. -/
structure SetP (b : Bk) (n : Int) (due rec : List Share) (y : Bk) : Prop where
  right : RB y
  po : y.po = b.po ++ refsF n 0 (cloT due rec)
  len : y.po.length = b.po.length + leastF (posL due rec)
  bal : ∀ x ∈ posL due rec, balA y.po x.o - balA b.po x.o = x.a
/-! skiarea/ledger.Turnover -/
/-! skiarea/ledger.Balance -/
/-! skiarea/skiarealaw38.taken -/
def takenIr : IFn := ⟨31, [.tmp 4],
 (.seq (.ops [
 ⟨(some 4), .mov, [.const (.bool false)], none⟩] false)
 (.seq (.seq (.ops [
 ⟨(some 5), .mov, [.const (.int .i64 0)], none⟩] false)
 (.block 0
 (.loop
 (.seq (.seq (.ops [
 ⟨(some 6), .mov, [.tmp 5], none⟩,
 ⟨(some 7), .mov, [.tmp 0], none⟩,
 ⟨(some 8), .len, [.tmp 7], none⟩,
 ⟨(some 9), .cmp .lss, [.tmp 6, .tmp 8], none⟩] false)
 (.cond (.tmp 9)
 .skip
 (.exit 0)))
 (.seq (.block 1
 (.seq (.ops [
 ⟨(some 12), .mov, [.tmp 0], none⟩,
 ⟨(some 13), .mov, [.tmp 5], none⟩,
 ⟨(some 14), .idx 4, [.tmp 12, .tmp 13], none⟩,
 ⟨(some 15), .faddr 0, [.tmp 14], none⟩,
 ⟨(some 16), .load 1 false, [.tmp 15], none⟩,
 ⟨(some 17), .mov, [.tmp 1], none⟩,
 ⟨(some 18), .bin .mul .i64 true, [.tmp 17, .const (.int .i64 100)], none⟩,
 ⟨(some 19), .cmp .gtr, [.tmp 16, .tmp 18], none⟩,
 ⟨(some 20), .mov, [.tmp 19], none⟩,
 ⟨(some 21), .mov, [.tmp 0], (some (20, true))⟩,
 ⟨(some 22), .mov, [.tmp 5], (some (20, true))⟩,
 ⟨(some 23), .idx 4, [.tmp 21, .tmp 22], (some (20, true))⟩,
 ⟨(some 24), .faddr 0, [.tmp 23], (some (20, true))⟩,
 ⟨(some 25), .load 1 false, [.tmp 24], (some (20, true))⟩,
 ⟨(some 26), .mov, [.tmp 1], (some (20, true))⟩,
 ⟨(some 27), .bin .mul .i64 true, [.tmp 26, .const (.int .i64 100)], (some (20, true))⟩,
 ⟨(some 28), .bin .add .i64 true, [.tmp 27, .const (.int .i64 8)], (some (20, true))⟩,
 ⟨(some 29), .cmp .leq, [.tmp 25, .tmp 28], (some (20, true))⟩,
 ⟨(some 30), .pick, [.tmp 20, .tmp 29, .const (.bool false)], none⟩] false)
 (.cond (.tmp 30)
 (.seq (.ops [
 ⟨(some 4), .mov, [.const (.bool true)], none⟩] false)
 .ret)
 .skip)))
 (.ops [
 ⟨(some 10), .mov, [.tmp 5], none⟩,
 ⟨(some 11), .bin .add .i64 false, [.tmp 10, .const (.int .i64 1)], none⟩,
 ⟨(some 5), .mov, [.tmp 11], none⟩] false))))))
 (.seq (.ops [
 ⟨(some 4), .mov, [.const (.bool false)], none⟩] false)
 .ret)))⟩
theorem takenLow : lowF Tryz.prog { wraps := [18, 27, 28] } Tryz.f28 = some takenIr := by kernel_rfl
def takenS : Spec := spec (List Pst × Int) (fun p => [L 4 (p.1.map encO), I p.2]) (fun p => p.1.length ≤ 1000000) (fun p => B (takenB p.1 p.2))
theorem takenV : fnV Tryz.prog takenIr takenS := by
  intro ⟨(l : List Pst), (n : Int)⟩ hx
  replace hx : l.length ≤ 1000000 := hx
  have hl : (l.map encO).length = l.length := List.length_map ..
  show vc _ _ _ _ ⟨argEnv 0 [L 4 (l.map encO), I n], [], 0⟩
  conv => whnf
  refine ⟨Nat, fun xq => ⟨[(0, L 4 (l.map encO)), (1, I n), (5, I xq)], [], 0⟩, fun xq => xq ≤ l.length ∧ takenB (l.take xq) n = false, fun xq => l.length - xq, ⟨0, ?_, [], ⟨⟨rfl, rfl⟩, ⟨⟨rfl, rfl⟩, ⟨⟨rfl, rfl⟩, trivial⟩⟩⟩, trivial, rfl, rfl, rfl⟩, ?_⟩
  · (try dsimp only); exact ⟨Nat.zero_le _, rfl⟩
  rintro k hk
  obtain ⟨hk, h0⟩ : k ≤ l.length ∧ takenB (l.take k) n = false := hk
  (try dsimp only)
  by_cases hkl : k < l.length
  · obtain ⟨x, hx⟩ := getElem_some hkl
    have hst : takenB (l.take (k + 1)) n = (takenB (l.take k) n || (decide (IntKind.wrap .i64 (n * 100) < x.ref) && decide (x.ref ≤ IntKind.wrap .i64 (IntKind.wrap .i64 (n * 100) + 8)))) := any_step hx
    rw [h0, Bool.false_or] at hst
    have hin : (decide (IntKind.wrap .i64 (n * 100) < x.ref) && decide (x.ref ≤ IntKind.wrap .i64 (IntKind.wrap .i64 (n * 100) + 8))) = true → takenB l n = true := fun h => List.any_eq_true.2 ⟨x, List.mem_of_getElem? hx, h⟩
    by_cases c1 : IntKind.wrap .i64 (n * 100) < x.ref
    · by_cases c2 : x.ref ≤ IntKind.wrap .i64 (IntKind.wrap .i64 (n * 100) + 8)
      · repeat' ((conv => whnf); first | (refine ⟨fun h => ?_, fun h => ?_⟩ <;> try (exfalso; first | omega | exact absurd h (by decide) | exact h rfl | exact absurd c1 h | exact absurd c2 h | exact absurd h c1 | exact absurd h c2 | exact absurd (show true = false from h) (by decide) | exact absurd (show false = true from h) (by decide))) | (refine ⟨by omega, fun r hrr => ?_⟩; first | ((have hre : r = encO x := by (first | exact get_row hrr hx | fail)); subst hre)) | fail | fail)
        all_goals (refine ⟨[], rfl, trivial, congrArg CV.bool ?_⟩; exact (hin (by rw [decide_eq_true c1, decide_eq_true c2]; rfl)).symm)
      · repeat' ((conv => whnf); first | (refine ⟨fun h => ?_, fun h => ?_⟩ <;> try (exfalso; first | omega | exact absurd h (by decide) | exact h rfl | exact absurd c1 h | exact absurd c2 h | exact absurd h c1 | exact absurd h c2 | exact absurd (show true = false from h) (by decide) | exact absurd (show false = true from h) (by decide))) | (refine ⟨by omega, fun r hrr => ?_⟩; first | ((have hre : r = encO x := by (first | exact get_row hrr hx | fail)); subst hre)) | (refine ⟨k + 1, ⟨?_, by (try dsimp only); omega⟩, [], ⟨⟨rfl, rfl⟩, ⟨⟨rfl, rfl⟩, ⟨⟨rfl, rfl⟩, trivial⟩⟩⟩, trivial, rfl, rfl, rfl⟩; (try dsimp only); exact ⟨by omega, hst.trans (by rw [decide_eq_false c2, Bool.and_false])⟩) | refine ⟨⟨by omega, by omega⟩, ?_⟩ | fail)
    · repeat' ((conv => whnf); first | (refine ⟨fun h => ?_, fun h => ?_⟩ <;> try (exfalso; first | omega | exact absurd h (by decide) | exact h rfl | exact absurd c1 h | exact absurd c2 h | exact absurd h c1 | exact absurd h c2 | exact absurd (show true = false from h) (by decide) | exact absurd (show false = true from h) (by decide))) | (refine ⟨by omega, fun r hrr => ?_⟩; first | ((have hre : r = encO x := by (first | exact get_row hrr hx | fail)); subst hre)) | (refine ⟨k + 1, ⟨?_, by (try dsimp only); omega⟩, [], ⟨⟨rfl, rfl⟩, ⟨⟨rfl, rfl⟩, ⟨⟨rfl, rfl⟩, trivial⟩⟩⟩, trivial, rfl, rfl, rfl⟩; (try dsimp only); exact ⟨by omega, hst.trans (by rw [decide_eq_false c1, Bool.false_and])⟩) | refine ⟨⟨by omega, by omega⟩, ?_⟩ | fail)
  · rw [take_end hkl] at h0
    repeat' ((conv => whnf); first | (refine ⟨fun h => ?_, fun h => ?_⟩ <;> try (exfalso; first | omega | exact absurd h (by decide) | exact h rfl | exact absurd (show true = false from h) (by decide) | exact absurd (show false = true from h) (by decide))) | fail | fail)
    all_goals (refine ⟨[], rfl, trivial, congrArg CV.bool ?_⟩; exact (h0).symm)
theorem taken_h : Holds Tryz.prog 28 takenS := holds_of mix Tryz.func28 takenLow (fun _ => rfl) takenV

end Go.Proofs.YtpkhannkbafimaaGreat
