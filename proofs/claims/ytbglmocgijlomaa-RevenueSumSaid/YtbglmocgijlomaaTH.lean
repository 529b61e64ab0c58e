/- The shares of a sale: plain. No program in sight. -/
import Derived.Test.YtbglmocgijlomaaTG
namespace Go.Proofs.Ytbglmocgijlomaa
open Go.RowKit

def restOf (s : Sale) : Int := s.paid - s.fee
def ptsOf (m : Mp) (l : List Tariff) (rides : List Ride) (s : Sale) : List Int := ptsAll m l rides s.serial
def cutOf (m : Mp) (l : List Tariff) (rides : List Ride) (s : Sale) : List Int := if chkF (restOf s) (ptsOf m l rides s) = 0 then partsL (restOf s) (ptsOf m l rides s) else []
def moreOf (m : Mp) (l : List Tariff) (rides : List Ride) (s : Sale) : List Share := if chkF (restOf s) (ptsOf m l rides s) = 0 then [] else [⟨s.seller, restOf s⟩]
def idxK (P : List Int) (k : Nat) : List Share := (List.range k).map fun i : Nat => (⟨(i : Int) + 1, P.getD i 0⟩ : Share)
theorem idxK_snoc {P : List Int} {k : Nat} {n : Int} (h : P[k]? = some n) : idxK P (k + 1) = idxK P k ++ [⟨(k : Int) + 1, n⟩] := by
  rw [idxK, idxK, List.range_succ, List.map_append]
  simp [List.getD, h]
theorem idxK_len (P : List Int) (k : Nat) : (idxK P k).length = k := by simp [idxK]
def sharesOf (m : Mp) (l : List Tariff) (rides : List Ride) (s : Sale) : List Share := [⟨s.seller, s.fee⟩] ++ moreOf m l rides s ++ idxK (cutOf m l rides s) (cutOf m l rides s).length
def ofL (m : Mp) (l : List Tariff) (rides : List Ride) (s : Sale) : List Share := if addO [] (sharesOf m l rides s) then fewL (sharesOf m l rides s) else []
structure OfP (m : Mp) (l : List Tariff) (rides : List Ride) (s : Sale) : Prop where
  hm : okM m
  ops : ∀ x ∈ m.lifts, 1 ≤ x.op ∧ x.op ≤ 8
  ll : l.length ≤ 1000000
  hR : Rates l
  hr : rides.length ≤ 100
  sel : 1 ≤ s.seller ∧ s.seller ≤ 8
  fee : 0 ≤ s.fee ∧ s.fee ≤ s.paid
  paid : s.paid ≤ 100000000
theorem okO_of {x : Share} (h : -1000 ≤ x.o ∧ x.o ≤ 1000) : okO x := by
  unfold okO
  simp [Lit.wf, IntKind.min, IntKind.max, IntKind.signed, IntKind.bits]
  omega
theorem cutOf_len (m : Mp) (l : List Tariff) (rides : List Ride) (s : Sale) : (cutOf m l rides s).length ≤ 8 := by
  unfold cutOf
  split
  · rw [partsL_len, ptsOf, ptsAll_len]; exact Nat.le_refl _
  · exact Nat.zero_le _
theorem sharesOf_ok {m : Mp} {l : List Tariff} {rides : List Ride} {s : Sale} (h : OfP m l rides s) : (sharesOf m l rides s).length ≤ 100 ∧ ∀ x ∈ sharesOf m l rides s, okO x := by
  have hp := cutOf_len m l rides s
  have hm : (moreOf m l rides s).length ≤ 1 ∧ ∀ x ∈ moreOf m l rides s, x.o = s.seller := by
    unfold moreOf
    split
    · exact ⟨by decide, by simp⟩
    · exact ⟨by simp, by simp⟩
  have hs := h.sel
  refine ⟨?_, fun x hx => ?_⟩
  · simp only [sharesOf, List.length_append, List.length_cons, List.length_nil, idxK_len]; omega
  · rcases List.mem_append.1 hx with hx | hx
    · rcases List.mem_append.1 hx with hx | hx
      · simp at hx; subst hx; exact okO_of (by show -1000 ≤ s.seller ∧ s.seller ≤ 1000; omega)
      · exact okO_of (by rw [hm.2 x hx]; omega)
    · obtain ⟨i, hi, rfl⟩ := List.mem_map.1 hx
      have := List.mem_range.1 hi
      exact okO_of (by show -1000 ≤ (i : Int) + 1 ∧ (i : Int) + 1 ≤ 1000; omega)
theorem cutOf_bnd {m : Mp} {l : List Tariff} {rides : List Ride} {s : Sale} : (ptsOf m l rides s).length ≤ 1000000 := by rw [ptsOf, ptsAll_len]; decide
theorem ofT {m : Mp} {l : List Tariff} {rides : List Ride} {s : Sale} {a b : List Share} (h : a ++ b = sharesOf m l rides s) : ∃ e : Int, addT a b = .tup [L 2 ((ofL m l rides s).map encS), I e] := by
  refine ⟨if addO [] (a ++ b) then 0 else 12, ?_⟩
  unfold addT ofL
  rw [h]
theorem splOf (m : Mp) (l : List Tariff) (rides : List Ride) (s : Sale) : splT (s.paid - s.fee) (ptsOf m l rides s) = .tup [L 1 ((cutOf m l rides s).map e1), I (chkF (restOf s) (ptsOf m l rides s))] := rfl
end Go.Proofs.Ytbglmocgijlomaa
