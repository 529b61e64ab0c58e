/- What the stage's theorem, the rides of other media and the order of the sales ask of the shares: plain. No program in sight. -/
import Derived.Test.YtbglmocgijlomaaTR
namespace Go.Proofs.Ytbglmocgijlomaa
open Go.RowKit

/-! ### rides of other media -/
def ownR (rides : List Ride) (serial : Int) : List Ride := rides.filter fun r => decide (r.serial = serial)
theorem own_fold (m : Mp) (l : List Tariff) (serial : Int) : ∀ (rides : List Ride) (ps : List Int), (ownR rides serial).foldl (ptStep m l serial) ps = rides.foldl (ptStep m l serial) ps
  | [], _ => rfl
  | r :: t, ps => by
    unfold ownR
    rw [List.filter_cons]
    by_cases h : r.serial = serial
    · rw [if_pos (decide_eq_true h)]
      exact own_fold m l serial t _
    · rw [if_neg (by simp [h]), List.foldl_cons, ptStep_no h]
      exact own_fold m l serial t ps
theorem own_pts (m : Mp) (l : List Tariff) (rides : List Ride) (serial : Int) : ptsAll m l (ownR rides serial) serial = ptsAll m l rides serial := own_fold m l serial rides _
theorem own_of (m : Mp) (l : List Tariff) (rides : List Ride) (s : Sale) : ofL m l (ownR rides s.serial) s = ofL m l rides s := by
  have h : ptsOf m l (ownR rides s.serial) s = ptsOf m l rides s := own_pts m l rides s.serial
  have hs : sharesOf m l (ownR rides s.serial) s = sharesOf m l rides s := by
    unfold sharesOf moreOf cutOf
    rw [h]
  unfold ofL
  rw [hs]
theorem own_snoc {rides : List Ride} {k : Nat} {r : Ride} {serial : Int} (h : rides[k]? = some r) : ownR (rides.take (k + 1)) serial = if r.serial = serial then ownR (rides.take k) serial ++ [r] else ownR (rides.take k) serial := by
  rw [take_snoc rides k r h]
  unfold ownR
  rw [List.filter_append]
  by_cases e : r.serial = serial
  · rw [if_pos e]; simp [e]
  · rw [if_neg e]; simp [e]
theorem own_len (rides : List Ride) (serial : Int) : (ownR rides serial).length ≤ rides.length := List.length_filter_le ..
theorem own_bk {b : Book} (h : BkP b.m b.l b.rides) (serial : Int) : BkP b.m b.l (ownR b.rides serial) := ⟨h.hm, h.ops, h.ll, h.hR, Nat.le_trans (own_len _ _) h.hr⟩

/-! ### the amounts by operator -/
def putA (ps : List Int) (x : Share) : List Int := ps.set (x.o - 1).toNat x.a
def partsA (L : List Share) : List Int := L.foldl putA (List.replicate 8 0)
theorem putA_len : ∀ (L : List Share) (ps : List Int), (L.foldl putA ps).length = ps.length
  | [], _ => rfl
  | x :: r, ps => by rw [List.foldl_cons, putA_len r, putA, List.length_set]
theorem partsA_len (L : List Share) : (partsA L).length = 8 := by rw [partsA, putA_len]; rfl
theorem partsA_snoc {L : List Share} {k : Nat} {x : Share} (h : L[k]? = some x) : partsA (L.take (k + 1)) = (partsA (L.take k)).set (x.o - 1).toNat x.a := by
  rw [take_snoc L k x h, partsA, List.foldl_append]; rfl
theorem put_get : ∀ (L : List Share) (ps : List Int), (∀ x ∈ L, 1 ≤ x.o) → (L.Pairwise fun x y => x.o < y.o) → ∀ j : Nat, j < ps.length → (L.foldl putA ps)[j]? = some (if (j : Int) + 1 ∈ L.map (·.o) then amt L ((j : Int) + 1) else ps.getD j 0)
  | [], ps, _, _, j, hj => by
    obtain ⟨v, hv⟩ := getElem_some hj
    simp [hv, List.getD]
  | x :: r, ps, h1, hp, j, hj => by
    rw [List.foldl_cons, put_get r (putA ps x) (fun y hy => h1 y (by simp [hy])) (List.pairwise_cons.1 hp).2 j (by rw [putA, List.length_set]; exact hj)]
    have hx := h1 x (by simp)
    by_cases e : x.o = (j : Int) + 1
    · have hn : (j : Int) + 1 ∉ r.map (·.o) := by
        intro hm
        obtain ⟨y, hy, ey⟩ := List.mem_map.1 hm
        have := (List.pairwise_cons.1 hp).1 y hy
        omega
      rw [if_neg hn, if_pos (by simp [e])]
      have e1 : (x.o - 1).toNat = j := by omega
      have e2 : (putA ps x).getD j 0 = x.a := by
        rw [putA, e1, List.getD, List.getElem?_set]
        simp [hj]
      have e3 : amt (x :: r) ((j : Int) + 1) = x.a + amt r ((j : Int) + 1) := by simp only [amt, List.map_cons, List.sum_cons, if_pos e]
      rw [e2, e3, amt_out hn]; simp
    · have hne : (x.o - 1).toNat ≠ j := by omega
      have e2 : (putA ps x).getD j 0 = ps.getD j 0 := by
        rw [putA, List.getD, List.getElem?_set_ne hne, List.getD]
      have e3 : amt (x :: r) ((j : Int) + 1) = amt r ((j : Int) + 1) := by simp only [amt, List.map_cons, List.sum_cons, if_neg e, Int.zero_add]
      have e4 : ((j : Int) + 1 ∈ (x :: r).map (·.o)) ↔ ((j : Int) + 1 ∈ r.map (·.o)) := by
        simp only [List.map_cons, List.mem_cons]
        constructor
        · rintro (h | h)
          · exact absurd h.symm e
          · exact h
        · exact .inr
      rw [e2, e3]
      by_cases hm : (j : Int) + 1 ∈ r.map (·.o)
      · rw [if_pos hm, if_pos (e4.2 hm)]
      · rw [if_neg hm, if_neg (fun h => hm (e4.1 h))]
theorem partsA_get {L : List Share} (h : Fine L) {j : Nat} (hj : j < 8) : (partsA L)[j]? = some (amt L ((j : Int) + 1)) := by
  rw [partsA, put_get L _ (fun x hx => (h.op x hx).1.1) h.lt j (by simpa using hj)]
  split
  · rfl
  · rename_i hn
    rw [amt_out hn, List.getD, List.getElem?_replicate, if_pos hj]; rfl

/-! ### the amounts of the shares of a sale -/
theorem amt_idx (P : List Int) : ∀ (n : Nat) (j : Nat), n ≤ P.length → amt (idxK P n) ((j : Int) + 1) = if j < n then P.getD j 0 else 0
  | 0, j, _ => by simp [idxK, amt]
  | n + 1, j, h => by
    obtain ⟨x, hx⟩ := getElem_some (xs := P) (k := n) (by omega)
    rw [idxK_snoc hx, amt_snoc, amt_idx P n j (by omega)]
    by_cases e : j = n
    · subst e
      rw [if_pos rfl, if_neg (Nat.lt_irrefl j), if_pos (Nat.lt_succ_self j), List.getD, hx]
      simp
    · rw [if_neg (by show ¬ ((j : Int) + 1 = (n : Int) + 1); omega)]
      by_cases hl : j < n
      · rw [if_pos hl, if_pos (by omega)]
      · rw [if_neg hl, if_neg (by omega)]
theorem amt_one (o a p : Int) : amt [⟨o, a⟩] p = if p = o then a else 0 := by
  have := amt_snoc [] ⟨o, a⟩ p
  simp only [List.nil_append] at this
  rw [this]
  simp [amt]
section
variable {m : Mp} {l : List Tariff} {rides : List Ride} {s : Sale}
theorem amt_of (h : OfP m l rides s) (o : Int) : amt (ofL m l rides s) o = amt (sharesOf m l rides s) o := by rw [ofL_eq h, amt_few]
theorem pts_ok (h : OfP m l rides s) : ∀ w ∈ ptsOf m l rides s, okW w := fun w hw => by
  have := ptsAll_bnd h.hR s.serial rides w hw
  have := h.hr
  unfold okW
  omega
/-- When the rest is split. -/
theorem chk_of (h : OfP m l rides s) : chkF (restOf s) (ptsOf m l rides s) = if (ptsOf m l rides s).sum = 0 then 1 else 0 := by
  have h1 : (ptsOf m l rides s).length = 8 := ptsAll_len ..
  have h2 := h.fee
  have h3 := h.paid
  unfold chkF
  rw [if_neg (by omega), if_neg (by unfold restOf; omega), if_pos (pts_ok h)]
/-- No points: the seller has it all. -/
theorem whole_none (h : OfP m l rides s) (h0 : (ptsOf m l rides s).sum = 0) : amt (ofL m l rides s) s.seller = s.paid := by
  have hc := chk_of h
  rw [if_pos h0] at hc
  rw [amt_of h, sharesOf, moreOf, cutOf, if_neg (by omega), if_neg (by omega), amt_app, amt_app, amt_one, amt_one, if_pos rfl, if_pos rfl]
  simp [idxK, amt, restOf]
  omega
/-- Points: the seller has the fee besides the part. -/
theorem whole_some (h : OfP m l rides s) (h0 : (ptsOf m l rides s).sum ≠ 0) {j : Nat} (hj : j < 8) : amt (ofL m l rides s) ((j : Int) + 1) = (if (j : Int) + 1 = s.seller then s.fee else 0) + (partsL (restOf s) (ptsOf m l rides s)).getD j 0 := by
  have hc := chk_of h
  rw [if_neg h0] at hc
  have hl : (partsL (restOf s) (ptsOf m l rides s)).length = 8 := by rw [partsL_len]; exact ptsAll_len ..
  rw [amt_of h, sharesOf, moreOf, cutOf, if_pos hc, if_pos hc, amt_app, amt_app, amt_one, amt_idx _ _ _ (Nat.le_refl _), if_pos (show j < (partsL (restOf s) (ptsOf m l rides s)).length by omega)]
  simp [amt]
theorem of_fine (h : OfP m l rides s) : Fine (ofL m l rides s) := by
  have hp := h.paid
  refine ⟨fun x hx => ⟨of_op h x hx, ?_⟩, ?_, by rw [of_sum h]; omega, by have := of_len h; omega⟩
  · rw [ofL_eq h] at hx; exact few_pos (shares_pos h) hx
  · rw [ofL_eq h]; exact fewL_lt _
theorem whole_parts (h : OfP m l rides s) (h0 : (ptsOf m l rides s).sum ≠ 0) {v : Int} (hv : (partsA (ofL m l rides s))[(s.seller - 1).toNat]? = some v) : (partsA (ofL m l rides s)).set (s.seller - 1).toNat (v - s.fee) = partsL (restOf s) (ptsOf m l rides s) := by
  have hl : (partsL (restOf s) (ptsOf m l rides s)).length = 8 := by rw [partsL_len]; exact ptsAll_len ..
  have hs := h.sel
  apply List.ext_getElem?
  intro i
  by_cases hi : i < 8
  · obtain ⟨p, hp⟩ := getElem_some (xs := partsL (restOf s) (ptsOf m l rides s)) (k := i) (by omega)
    have hg : ∀ j : Nat, j < 8 → (partsA (ofL m l rides s))[j]? = some ((if (j : Int) + 1 = s.seller then s.fee else 0) + (partsL (restOf s) (ptsOf m l rides s)).getD j 0) := fun j hj => by rw [partsA_get (of_fine h) hj, whole_some h h0 hj]
    by_cases e : (s.seller - 1).toNat = i
    · rw [hg _ (by omega), if_pos (by omega)] at hv
      cases hv
      rw [e, List.getElem?_set_self (by rw [partsA_len]; exact hi), hp, List.getD, hp]
      simp
      omega
    · rw [List.getElem?_set_ne e, hg i hi, if_neg (by omega), hp, List.getD, hp]
      simp
  · rw [List.getElem?_eq_none (by rw [List.length_set, partsA_len]; omega), List.getElem?_eq_none (by omega)]
theorem whole_fair (h : OfP m l rides s) (h0 : (ptsOf m l rides s).sum ≠ 0) : chkF (restOf s) (ptsOf m l rides s) = 0 ∧ fairP (restOf s) (ptsOf m l rides s) (partsL (restOf s) (ptsOf m l rides s)) := by
  have hc := chk_of h
  rw [if_neg h0] at hc
  exact ⟨hc, fair_parts (good_of hc)⟩
end
theorem pts_sum {m : Mp} {l : List Tariff} {rides : List Ride} {s : Sale} (h : OfP m l rides s) (k : Nat) : 0 ≤ ((ptsOf m l rides s).take k).sum ∧ ((ptsOf m l rides s).take k).sum ≤ 1000000000 * (k : Int) := by
  have h1 := sum_ok (ws := (ptsOf m l rides s).take k) fun w hw => pts_ok h w (List.mem_of_mem_take hw)
  rw [List.length_take] at h1
  omega

/-! ### the order of the sales -/
structure AllOk (l : List Sale) : Prop where
  len : l.length ≤ 2000
  each : ∀ x ∈ l, saleP x ∧ within x.fee 0 x.paid
  diff : l.Pairwise fun x y => x.serial ≠ y.serial
theorem allOk_of {l : List Sale} (h : salesE l = 0) : AllOk l := by
  unfold salesE at h
  split at h
  · cases h
  rename_i hl
  have he := fe_all h
  have h1 : ∀ (k : Nat) (x : Sale), l[k]? = some x → (saleP x ∧ within x.fee 0 x.paid) ∧ seenB l k x.serial ≠ true := by
    intro k x hk
    have := he k (List.getElem?_eq_some_iff.1 hk).1
    unfold saleE at this
    rw [at_of hk] at this
    split at this
    · cases this
    rename_i g1
    split at this
    · cases this
    rename_i g2
    split at this
    · cases this
    rename_i g3
    exact ⟨⟨Decidable.not_not.1 g1, Decidable.not_not.1 g2⟩, g3⟩
  refine ⟨by omega, fun x hx => ?_, ?_⟩
  · obtain ⟨k, hk⟩ := List.getElem?_of_mem hx
    exact (h1 k x hk).1
  · rw [List.pairwise_iff_getElem]
    intro i j hi hj hij e
    refine (h1 j _ (List.getElem?_eq_getElem hj)).2 (seen_yes hij (List.getElem?_eq_getElem hi) e)
theorem allOk_to {l : List Sale} (h : AllOk l) : salesE l = 0 := by
  unfold salesE
  rw [if_neg (by have := h.len; omega)]
  have : ∀ n : Nat, n ≤ l.length → fe (saleE l) n = 0 := by
    intro n
    induction n with
    | zero => intro _; rfl
    | succ n ih =>
      intro hn
      obtain ⟨x, hx⟩ := getElem_some (xs := l) (k := n) (by omega)
      have hm := h.each x (List.mem_of_getElem? hx)
      refine fe_go (ih (by omega)) ?_
      unfold saleE
      rw [at_of hx, if_neg (fun g => g hm.1), if_neg (fun g => g hm.2), if_neg]
      intro hs
      have := seen_iff.2 hs
      obtain ⟨y, hy, e⟩ := List.mem_map.1 this
      obtain ⟨i, hi⟩ := List.getElem?_of_mem hy
      rw [List.getElem?_take] at hi
      split at hi
      · rename_i hin
        have := List.pairwise_iff_getElem.1 h.diff i n (List.getElem?_eq_some_iff.1 hi).1 (by omega) hin
        rw [(List.getElem?_eq_some_iff.1 hi).2, (List.getElem?_eq_some_iff.1 hx).2] at this
        exact this e
      · cases hi
  exact this _ (Nat.le_refl _)
def rotL (l : List Sale) (k : Nat) : List Sale := l.drop k ++ l.take k
theorem rot_len (l : List Sale) (k : Nat) : (rotL l k).length = l.length := by
  unfold rotL; rw [List.length_append, List.length_drop, List.length_take]; omega
theorem rot_ok {l : List Sale} (h : salesE l = 0) (k : Nat) : salesE (rotL l k) = 0 := by
  have a := allOk_of h
  refine allOk_to ⟨by rw [rot_len]; exact a.len, fun x hx => ?_, ?_⟩
  · rcases List.mem_append.1 hx with hx | hx
    · exact a.each x (List.mem_of_mem_drop hx)
    · exact a.each x (List.mem_of_mem_take hx)
  · have hd := a.diff
    rw [← List.take_append_drop k l, List.pairwise_append] at hd
    exact List.pairwise_append.2 ⟨hd.2.1, hd.1, fun x hx y hy e => hd.2.2 y hy x hx e.symm⟩
theorem rot_all (m : Mp) (l : List Tariff) (rides : List Ride) {sales : List Sale} (h : salesE sales = 0) (k : Nat) : allR m l rides (rotL sales k) = allR m l rides sales := by
  unfold allR
  rw [if_pos (rot_ok h k), if_pos h]
  refine few_ext fun o => ?_
  have e : allL m l rides sales = allL m l rides (sales.take k) ++ allL m l rides (sales.drop k) := by
    unfold allL
    rw [← List.flatMap_append, List.take_append_drop]
  have e2 : allL m l rides (rotL sales k) = allL m l rides (sales.drop k) ++ allL m l rides (sales.take k) := by
    unfold allL rotL
    rw [List.flatMap_append]
  rw [e, e2, amt_app, amt_app, Int.add_comm]
theorem all_sum {m : Mp} {l : List Tariff} {rides : List Ride} (hb : BkP m l rides) {sales : List Sale} (h : salesE sales = 0) (h4 : sales.length ≤ 40) : Fine (allR m l rides sales) ∧ sumA (allR m l rides sales) = paidL sales := by
  have g := all_good hb (sale_ok h)
  have hp := paid_bnd (sale_ok h)
  unfold allR
  rw [if_pos h, sumA_few, g.sum]
  exact ⟨fine_few g (by omega) (by omega), rfl⟩
end Go.Proofs.Ytbglmocgijlomaa
