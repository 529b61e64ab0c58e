/- The shares of all sales together: what All asks. No program in sight. -/
import Derived.Test.YtbglmocgijlomaaTK
namespace Go.Proofs.Ytbglmocgijlomaa
open Go.RowKit

structure BkP (m : Mp) (l : List Tariff) (rides : List Ride) : Prop where
  hm : okM m
  ops : ∀ x ∈ m.lifts, 1 ≤ x.op ∧ x.op ≤ 8
  ll : l.length ≤ 1000000
  hR : Rates l
  hr : rides.length ≤ 100
/-- A sale that Right takes. -/
structure SaP (s : Sale) : Prop where
  sel : 1 ≤ s.seller ∧ s.seller ≤ 8
  fee : 0 ≤ s.fee ∧ s.fee ≤ s.paid
  paid : s.paid ≤ 100000000
theorem BkP.of {m : Mp} {l : List Tariff} {rides : List Ride} (h : BkP m l rides) {s : Sale} (k : SaP s) : OfP m l rides s := ⟨h.hm, h.ops, h.ll, h.hR, h.hr, k.sel, k.fee, k.paid⟩
theorem sale_ok {l : List Sale} (h : salesE l = 0) : ∀ x ∈ l, SaP x := by
  intro x hx
  obtain ⟨k, hk⟩ := List.getElem?_of_mem hx
  have hkl := (List.getElem?_eq_some_iff.1 hk).1
  have h0 : fe (saleE l) l.length = 0 := by
    unfold salesE at h
    split at h
    · cases h
    · exact h
  have h1 := fe_all h0 k hkl
  unfold saleE at h1
  rw [at_of hk] at h1
  split at h1
  · cases h1
  rename_i hp
  split at h1
  · cases h1
  rename_i hf
  obtain ⟨_, _, hs, _, hd⟩ : saleP x := Decidable.not_not.1 hp
  exact ⟨hs, Decidable.not_not.1 hf, hd.2⟩
theorem sum_idx : ∀ (P : List Int) (n : Nat), n ≤ P.length → sumA (idxK P n) = (P.take n).sum
  | P, 0, _ => by simp [idxK, sumA]
  | P, n + 1, h => by
    obtain ⟨x, hx⟩ := getElem_some (xs := P) (k := n) (by omega)
    have ih := sum_idx P n (by omega)
    rw [idxK_snoc hx, sumA_app, ih, take_snoc P n x hx, List.sum_append]
    simp [sumA]
section
variable {m : Mp} {l : List Tariff} {rides : List Ride} {s : Sale}
theorem cut_pos : ∀ x ∈ cutOf m l rides s, 0 ≤ x := by
  unfold cutOf
  split
  · rename_i hc
    have g := good_of hc
    intro x hx
    obtain ⟨j, hj⟩ := List.getElem?_of_mem hx
    have hjl := (List.getElem?_eq_some_iff.1 hj).1
    rw [partsL_len] at hjl
    obtain ⟨w, hw⟩ := getElem_some hjl
    rw [partsL, incs_get _ _ j (restOf s * w / (ptsOf m l rides s).sum) ((ordL_nodup _).sublist (List.take_sublist _ _)) (fun i hi => by obtain ⟨k, _, rfl⟩ := ordL_mem (List.mem_of_mem_take hi); omega) (by rw [qL, List.getElem?_map, hw]; rfl)] at hj
    have := (g.q (List.mem_of_getElem? hw)).1
    cases hj
    split <;> omega
  · simp
theorem cut_sum : sumA (moreOf m l rides s) + (cutOf m l rides s).sum = restOf s := by
  unfold moreOf cutOf
  split
  · rename_i hc
    rw [(good_of hc).sum]; simp [sumA]
  · simp [sumA]
variable (h : OfP m l rides s)
include h
theorem shares_pos : Pos (sharesOf m l rides s) := by
  have hf := h.fee
  refine Pos.app (Pos.app (fun x hx => ?_) fun x hx => ?_) fun x hx => ?_
  · simp at hx; subst hx; exact hf.1
  · unfold moreOf at hx
    split at hx
    · simp at hx
    · simp at hx; subst hx; show 0 ≤ s.paid - s.fee; omega
  · obtain ⟨i, hi, rfl⟩ := List.mem_map.1 hx
    have hi := List.mem_range.1 hi
    obtain ⟨v, hv⟩ := getElem_some hi
    have : (cutOf m l rides s).getD i 0 = v := by rw [List.getD, hv]; rfl
    show 0 ≤ (cutOf m l rides s).getD i 0
    rw [this]; exact cut_pos v (List.mem_of_getElem? hv)
omit h in
theorem shares_sum : sumA (sharesOf m l rides s) = s.paid := by
  rw [sharesOf, sumA_app, sumA_app, sum_idx _ _ (Nat.le_refl _), List.take_length, Int.add_assoc, cut_sum]
  simp [sumA, restOf]; omega
theorem shares_op : ∀ x ∈ sharesOf m l rides s, 1 ≤ x.o ∧ x.o ≤ 8 := by
  intro x hx
  have hs := h.sel
  have hc := cutOf_len m l rides s
  rcases List.mem_append.1 hx with hx | hx
  · rcases List.mem_append.1 hx with hx | hx
    · simp at hx; subst hx; exact hs
    · unfold moreOf at hx
      split at hx
      · simp at hx
      · simp at hx; subst hx; exact hs
  · obtain ⟨i, hi, rfl⟩ := List.mem_map.1 hx
    have := List.mem_range.1 hi
    show 1 ≤ (i : Int) + 1 ∧ (i : Int) + 1 ≤ 8
    omega
theorem ofL_eq : ofL m l rides s = fewL (sharesOf m l rides s) := by
  have hp := h.paid
  refine if_pos (addO_pos _ [] (fun _ h => by simp at h) (shares_pos h) ?_)
  rw [shares_sum]; simp [sumA]; omega
theorem of_pos : Pos (ofL m l rides s) := by rw [ofL_eq h]; exact (shares_pos h).few
theorem of_sum : sumA (ofL m l rides s) = s.paid := by rw [ofL_eq h, sumA_few, shares_sum]
theorem of_op : ∀ x ∈ ofL m l rides s, 1 ≤ x.o ∧ x.o ≤ 8 := by
  intro x hx
  rw [ofL_eq h] at hx
  obtain ⟨y, hy, e⟩ := List.mem_map.1 (few_op hx)
  have := shares_op h y hy
  omega
theorem of_len : (ofL m l rides s).length ≤ 100 := by
  have h1 := (sharesOf_ok h).1
  have h2 := tab_len (sharesOf m l rides s)
  have h3 : (fewL (sharesOf m l rides s)).length ≤ (tabL (sharesOf m l rides s)).length := List.length_filter_le ..
  rw [ofL_eq h]; omega
end

/-! ### all sales -/
def allL (m : Mp) (l : List Tariff) (rides : List Ride) (sales : List Sale) : List Share := sales.flatMap (ofL m l rides)
def allR (m : Mp) (l : List Tariff) (rides : List Ride) (sales : List Sale) : List Share := if salesE sales = 0 then fewL (allL m l rides sales) else []
def paidL (sales : List Sale) : Int := (sales.map fun s => s.paid).sum
theorem allL_snoc {m : Mp} {l : List Tariff} {rides : List Ride} {sales : List Sale} {k : Nat} {x : Sale} (h : sales[k]? = some x) : allL m l rides (sales.take (k + 1)) = allL m l rides (sales.take k) ++ ofL m l rides x := by
  rw [take_snoc _ k x h, allL, allL, List.flatMap_append]; simp
structure AllG (L : List Share) (n : Int) (k : Nat) : Prop where
  pos : Pos L
  sum : sumA L = n
  op : ∀ x ∈ L, 1 ≤ x.o ∧ x.o ≤ 8
  len : L.length ≤ 100 * k
theorem all_good {m : Mp} {l : List Tariff} {rides : List Ride} (hb : BkP m l rides) : ∀ {sales : List Sale}, (∀ x ∈ sales, SaP x) → AllG (allL m l rides sales) (paidL sales) sales.length
  | [], _ => ⟨fun _ h => by simp [allL] at h, rfl, fun _ h => by simp [allL] at h, Nat.zero_le _⟩
  | x :: r, h => by
    have ih := all_good hb (sales := r) fun y hy => h y (by simp [hy])
    have hx := hb.of (h x (by simp))
    have e : allL m l rides (x :: r) = ofL m l rides x ++ allL m l rides r := rfl
    rw [e]
    refine ⟨(of_pos hx).app ih.pos, ?_, fun y hy => (List.mem_append.1 hy).elim (of_op hx y) (ih.op y), ?_⟩
    · rw [sumA_app, of_sum hx, ih.sum]; simp [paidL]
    · have := of_len hx
      have := ih.len
      simp only [List.length_append, List.length_cons]; omega
theorem paid_bnd : ∀ {sales : List Sale}, (∀ x ∈ sales, SaP x) → 0 ≤ paidL sales ∧ paidL sales ≤ 100000000 * (sales.length : Int)
  | [], _ => by simp [paidL]
  | x :: r, h => by
    have ih := paid_bnd (sales := r) fun y hy => h y (by simp [hy])
    have hx := h x (by simp)
    have := hx.fee
    have := hx.paid
    have e : paidL (x :: r) = x.paid + paidL r := by simp [paidL]
    rw [e, List.length_cons]; omega
/-- All and its reference have the same: adding one by one is adding all. -/
theorem add_few {A B : List Share} (h : Pos (A ++ B)) (hs : sumA (A ++ B) ≤ 1099511627776) : addT (fewL A) B = .tup [L 2 ((fewL (A ++ B)).map encS), I 0] := by
  have hp : Pos (fewL A ++ B) := (h.left.few).app h.right
  have he : sumA (fewL A ++ B) = sumA (A ++ B) := by rw [sumA_app, sumA_app, sumA_few]
  have hT := addO_pos (fewL A ++ B) [] (fun _ h => by simp at h) hp (by rw [he]; simp [sumA] at hs ⊢; exact hs)
  unfold addT
  rw [hT, if_pos rfl, if_pos rfl, few_app]
theorem add_all {A : List Share} (h : Pos A) (hs : sumA A ≤ 1099511627776) : addT A [] = .tup [L 2 ((fewL A).map encS), I 0] := by
  have hT := addO_pos A [] (fun _ h => by simp at h) h (by simp [sumA] at hs ⊢; exact hs)
  unfold addT
  rw [List.append_nil, hT, if_pos rfl, if_pos rfl]
end Go.Proofs.Ytbglmocgijlomaa
