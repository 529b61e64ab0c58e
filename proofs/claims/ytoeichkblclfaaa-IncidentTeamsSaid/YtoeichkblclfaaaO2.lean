/- Plans: no other teams have a smaller sum of costs: plain. -/
import Derived.Test.YtoeichkblclfaaaO1
import Derived.Test.YtoeichkblclfaaaM1
namespace Go.Proofs.Ytoeichkblclfaaa
open Go.RowKit
theorem nodup_le : ∀ {p E : List Int}, p.Nodup → (∀ e ∈ p, e ∈ E) → p.length ≤ E.length
  | [], _, _, _ => Nat.zero_le _
  | a :: p, E, h, hs => by
    rw [List.nodup_cons] at h
    have ha := hs a (by simp)
    have hp : ∀ e ∈ p, e ∈ E.erase a := fun e he => (List.mem_erase_of_ne (fun q => h.1 (by subst q; exact he))).2 (hs e (by simp [he]))
    have := nodup_le h.2 hp
    rw [List.length_erase_of_mem ha] at this
    have := List.length_pos_of_mem ha
    rw [List.length_cons]; omega
def sumR (f : Nat → Int) : Nat → Int
  | 0 => 0
  | n + 1 => sumR f n + f n
theorem sumR_shift (f : Nat → Int) : ∀ n, sumR f (n + 1) = f 0 + sumR (fun i => f (i + 1)) n
  | 0 => by simp [sumR]
  | n + 1 => by rw [sumR, sumR_shift f n, sumR]; omega
theorem sumR_congr {f g : Nat → Int} : ∀ {n : Nat}, (∀ i, i < n → f i = g i) → sumR f n = sumR g n
  | 0, _ => rfl
  | n + 1, h => by rw [sumR, sumR, sumR_congr fun i hi => h i (by omega), h n (by omega)]
abbrev cellM (m : List (List Int)) (q : List Int) (i : Nat) : Int := (m.getD i []).getD (q.getD i 0).toNat 0
/-- No assignment costs less. -/
theorem minF_le {c : Nat} (hc : c ≤ 8) : ∀ {m : List (List Int)} {S : Nat} {q : List Int}, OkM c m → S < 2 ^ c → popF S + m.length ≤ c → q.length = m.length → q.Nodup → (∀ x ∈ q, ∃ k : Nat, x = (k : Int) ∧ k < c ∧ S.testBit k = false) → minF c m S ≤ sumR (cellM m q) m.length
  | [], S, q, _, _, _, _, _, _ => by rw [minF]; exact Int.le_refl _
  | row :: rest, S, q, hm, hS, hp, hl, hn, hq => by
    rw [List.length_cons] at hp hl
    cases q with
    | nil => cases hl
    | cons x q =>
      obtain ⟨k, hx, hkc, hb⟩ := hq x (by simp)
      have hS2 : S < 256 := Nat.lt_of_lt_of_le hS (pow8 hc)
      rw [List.nodup_cons] at hn
      rw [List.length_cons] at hl
      have ih := minF_le hc (q := q) (okM_tail hm) (mask_lt hc hS hkc hb) (by rw [pop_add hS2 (by omega) hb]; omega) (by omega) hn.2 (fun y hy => by
        obtain ⟨j, hj, hjc, hjb⟩ := hq y (by simp [hy])
        refine ⟨j, hj, hjc, ?_⟩
        rw [mask_bit hS2 (by omega) hb, hjb, Bool.false_or]
        exact decide_eq_false fun e => hn.1 (by rw [hx, e, ← hj]; exact hy))
      have hmin : minF c (row :: rest) S ≤ row.getD k 0 + minF c rest (S + 2 ^ k) := by
        rw [minF]
        rcases minTo_spec (v := fun k => row.getD k 0 + minF c rest (S + 2 ^ k)) (S := S) (n := c) fun j hj hjb => by
          have h1 := (minF_spec hc (okM_tail hm) (mask_lt hc hS hj hjb) (by rw [pop_add hS2 (by omega) hjb]; omega)).1
          have h2 := (okM_get hm hj).1
          omega with ⟨_, h2⟩ | ⟨_, h2, _⟩
        · rw [h2 k hkc] at hb; cases hb
        · exact h2 k hkc hb
      rw [List.length_cons, sumR_shift]
      have h0 : cellM (row :: rest) (x :: q) 0 = row.getD k 0 := by subst hx; rfl
      have hs : (fun i => cellM (row :: rest) (x :: q) (i + 1)) = cellM rest q := rfl
      rw [h0, hs]; omega
/-- The greedy assignment costs the least. -/
theorem minF_att {c : Nat} (hc : c ≤ 8) : ∀ {m : List (List Int)} {S : Nat}, OkM c m → S < 2 ^ c → popF S + m.length ≤ c → sumR (cellM m (greedy c m S)) m.length = minF c m S
  | [], S, _, _, _ => by rw [minF]; rfl
  | row :: rest, S, hm, hS, hp => by
    rw [List.length_cons] at hp
    obtain ⟨k, hk, hkc, hb, hv, _⟩ := firstK_ex (minF_ex hc hm hS (by omega))
    have hg : greedy c (row :: rest) S = (k : Int) :: greedy c rest (S + 2 ^ k) := by rw [greedy, hk]
    have hS2 : S < 256 := Nat.lt_of_lt_of_le hS (pow8 hc)
    have ih := minF_att hc (okM_tail hm) (mask_lt hc hS hkc hb) (by rw [pop_add hS2 (by omega) hb]; omega)
    rw [hg, List.length_cons, sumR_shift]
    have h0 : cellM (row :: rest) ((k : Int) :: greedy c rest (S + 2 ^ k)) 0 = row.getD k 0 := rfl
    have hs : (fun i => cellM (row :: rest) ((k : Int) :: greedy c rest (S + 2 ^ k)) (i + 1)) = cellM rest (greedy c rest (S + 2 ^ k)) := rfl
    rw [h0, hs, ih]; exact hv
/-! sums in another order -/
def sumL {α : Type} (f : α → Int) (l : List α) : Int := l.foldr (fun x s => f x + s) 0
theorem sumL_perm {α : Type} {f : α → Int} {l l' : List α} (h : l.Perm l') : sumL f l = sumL f l' := by
  induction h with
  | nil => rfl
  | cons x _ ih => unfold sumL at *; rw [List.foldr_cons, List.foldr_cons, ih]
  | swap x y l => unfold sumL; rw [List.foldr_cons, List.foldr_cons, List.foldr_cons, List.foldr_cons]; omega
  | trans _ _ ih1 ih2 => exact ih1.trans ih2
theorem sumL_snoc {α : Type} (f : α → Int) (l : List α) (x : α) : sumL f (l ++ [x]) = sumL f l + f x := by
  induction l with
  | nil => simp [sumL]
  | cons y l ih => unfold sumL at *; rw [List.cons_append, List.foldr_cons, List.foldr_cons, ih]; omega
theorem sumR_list {α : Type} (f : α → Int) (g : Nat → α) : ∀ n, sumR (fun i => f (g i)) n = sumL f ((List.range n).map g)
  | 0 => rfl
  | n + 1 => by rw [sumR, sumR_list f g n, List.range_succ, List.map_append, List.map_singleton, sumL_snoc]
structure PermK (k : Nat) (q : List Int) : Prop where
  len : q.length = k
  nd : q.Nodup
  rg : ∀ x ∈ q, 0 ≤ x ∧ x < k
theorem PermK.mem {k : Nat} {q : List Int} (h : PermK k q) {j : Nat} (hj : j < k) : (j : Int) ∈ q := by
  refine Classical.byContradiction fun hn => ?_
  have hs : ∀ y ∈ (j : Int) :: q, y ∈ (List.range k).map fun n : Nat => (n : Int) := by
    intro y hy
    rcases List.mem_cons.1 hy with rfl | hy
    · exact List.mem_map.2 ⟨j, List.mem_range.2 hj, rfl⟩
    · obtain ⟨h1, h2⟩ := h.rg y hy
      exact List.mem_map.2 ⟨y.toNat, List.mem_range.2 (by omega), by omega⟩
  have := nodup_le (List.nodup_cons.2 ⟨hn, h.nd⟩) hs
  rw [List.length_cons, h.len, List.length_map, List.length_range] at this
  omega
def invI (q : List Int) (k : Nat) : List Int := (List.range k).map fun j : Nat => ((q.idxOf (j : Int) : Nat) : Int)
theorem PermK.idx {k : Nat} {q : List Int} (h : PermK k q) {j : Nat} (hj : j < k) : q.idxOf (j : Int) < k ∧ q[q.idxOf (j : Int)]? = some (j : Int) := by
  have hm := h.mem hj
  have hlt := List.idxOf_lt_length_of_mem hm
  exact ⟨by rw [← h.len]; exact hlt, by rw [List.getElem?_eq_getElem hlt, List.getElem_idxOf hlt]⟩
theorem PermK.idx_of {k : Nat} {q : List Int} (h : PermK k q) {i j : Nat} (hi : q[i]? = some (j : Int)) : q.idxOf (j : Int) = i := by
  obtain ⟨h1, h2⟩ := List.getElem?_eq_some_iff.1 hi
  have hj : j < k := by have := (h.rg _ (List.mem_of_getElem? hi)).2; omega
  obtain ⟨h3, h4⟩ := h.idx hj
  obtain ⟨h5, h6⟩ := List.getElem?_eq_some_iff.1 h4
  exact (List.getElem_inj h.nd).1 (h6.trans h2.symm)
theorem inv_get {q : List Int} {k j : Nat} (hj : j < k) : (invI q k)[j]? = some ((q.idxOf (j : Int) : Nat) : Int) := by
  unfold invI; rw [List.getElem?_map, List.getElem?_range hj]; rfl
theorem inv_perm {k : Nat} {q : List Int} (h : PermK k q) : PermK k (invI q k) := by
  refine ⟨by unfold invI; rw [List.length_map, List.length_range], ?_, fun x hx => ?_⟩
  · unfold invI
    rw [List.nodup_iff_pairwise_ne, List.pairwise_map]
    refine (List.nodup_iff_pairwise_ne.1 List.nodup_range).imp_of_mem fun {a b} ha hb hab e => hab ?_
    obtain ⟨_, h2⟩ := h.idx (List.mem_range.1 ha)
    obtain ⟨_, h4⟩ := h.idx (List.mem_range.1 hb)
    have : q.idxOf (a : Int) = q.idxOf (b : Int) := by omega
    rw [this, h4] at h2
    have := Option.some.inj h2
    omega
  · obtain ⟨j, hj, rfl⟩ := List.mem_map.1 hx
    have := (h.idx (List.mem_range.1 hj)).1
    omega
/-- The sum over a permutation and over its inverse. -/
theorem sum_inv {k : Nat} {q : List Int} (h : PermK k q) (C : Nat → Nat → Int) : sumR (fun i => C i (q.getD i 0).toNat) k = sumR (fun j => C ((invI q k).getD j 0).toNat j) k := by
  have e1 := sumR_list (fun p : Nat × Nat => C p.1 p.2) (fun i => (i, (q.getD i 0).toNat)) k
  have e2 := sumR_list (fun p : Nat × Nat => C p.1 p.2) (fun j => (((invI q k).getD j 0).toNat, j)) k
  refine e1.trans (Eq.trans ?_ e2.symm)
  refine sumL_perm ((List.perm_ext_iff_of_nodup ?_ ?_).2 fun p => ?_)
  · rw [List.nodup_iff_pairwise_ne, List.pairwise_map]
    exact (List.nodup_iff_pairwise_ne.1 List.nodup_range).imp fun hab e => hab (congrArg Prod.fst e)
  · rw [List.nodup_iff_pairwise_ne, List.pairwise_map]
    exact (List.nodup_iff_pairwise_ne.1 List.nodup_range).imp fun hab e => hab (congrArg Prod.snd e)
  · obtain ⟨i, t⟩ := p
    rw [List.mem_map, List.mem_map]
    constructor
    · rintro ⟨a, ha, e⟩
      have ha := List.mem_range.1 ha
      obtain ⟨x, hx⟩ : ∃ x, q[a]? = some x := ⟨_, List.getElem?_eq_getElem (by rw [h.len]; exact ha)⟩
      obtain ⟨h1, h2⟩ := h.rg x (List.mem_of_getElem? hx)
      rw [List.getD_eq_getElem?_getD, hx] at e
      have e1 : i = a := (congrArg Prod.fst e).symm
      have e2 : t = x.toNat := (congrArg Prod.snd e).symm
      subst e1 e2
      have hx' : q[i]? = some ((x.toNat : Nat) : Int) := by rw [hx]; congr 1; omega
      refine ⟨x.toNat, List.mem_range.2 (by omega), ?_⟩
      rw [List.getD_eq_getElem?_getD, inv_get (by omega), h.idx_of hx']
      simp
    · rintro ⟨b, hb, e⟩
      have hb := List.mem_range.1 hb
      rw [List.getD_eq_getElem?_getD, inv_get hb] at e
      have e1 : i = q.idxOf (b : Int) := by have := (congrArg Prod.fst e).symm; simpa using this
      have e2 : t = b := (congrArg Prod.snd e).symm
      obtain ⟨h1, h2⟩ := h.idx hb
      subst e1 e2
      refine ⟨q.idxOf (t : Int), List.mem_range.2 h1, ?_⟩
      rw [List.getD_eq_getElem?_getD, h2]
      simp
theorem fill_get {B : List Int} {k : Nat} (h : PermK k B) : ∀ t, t ≤ k → ∀ j, j < t → ∀ b, B[j]? = some b → (fillT B k t)[b.toNat]? = some (j : Int)
  | 0, _, j, hj, _, _ => by omega
  | t + 1, ht, j, hj, b, hb => by
    have hbr := h.rg b (List.mem_of_getElem? hb)
    obtain ⟨x, hx⟩ : ∃ x, B[t]? = some x := ⟨_, List.getElem?_eq_getElem (by rw [h.len]; omega)⟩
    have hxr := h.rg x (List.mem_of_getElem? hx)
    rw [fillT, List.getD_eq_getElem?_getD, hx]
    show ((fillT B k t).set x.toNat (t : Int))[b.toNat]? = _
    by_cases e : j = t
    · subst e
      rw [hx] at hb; cases hb
      exact List.getElem?_set_self (by rw [fillT_len]; omega)
    · have hne : x.toNat ≠ b.toNat := fun q => e (by
        have hxb : x = b := by omega
        obtain ⟨h1, h2⟩ := List.getElem?_eq_some_iff.1 hx
        obtain ⟨h3, h4⟩ := List.getElem?_eq_some_iff.1 hb
        exact ((List.getElem_inj h.nd).1 (h2.trans (hxb.trans h4.symm))).symm)
      rw [List.getElem?_set_ne hne]
      exact fill_get h t (by omega) j (by omega) b hb
/-- What the loop fills in is the inverse. -/
theorem fill_inv {B : List Int} {k : Nat} (h : PermK k B) : fillT B k k = invI B k := by
  apply List.ext_getElem?
  intro i
  by_cases hi : i < k
  · obtain ⟨h1, h2⟩ := h.idx hi
    have := fill_get h k (Nat.le_refl _) _ h1 _ h2
    rw [Int.toNat_natCast] at this
    rw [this, inv_get hi]
  · rw [List.getElem?_eq_none (by rw [fillT_len]; omega), List.getElem?_eq_none (by unfold invI; rw [List.length_map, List.length_range]; omega)]
/-- Teams that may be sent. -/
structure OkT (k n : Nat) (q : List Int) : Prop where
  len : q.length = k
  nd : q.Nodup
  rg : ∀ x ∈ q, 0 ≤ x ∧ x < n
abbrev cst (m : Mp) (l : List Inc) (nodes q : List Int) (i : Nat) : Int := costF m (nodes.getD (q.getD i 0).toNat 0) (runId l ((urgF l).getD i 0))
theorem run_at {l : List Inc} {nodes : List Int} {i : Nat} (h : i < kOf l nodes) : (runsF l nodes)[i]? = some (runId l ((urgF l).getD i 0)) := by
  have hu : kOf l nodes ≤ (urgF l).length := by unfold kOf; omega
  unfold runsF
  rw [List.getElem?_map, List.getElem?_take, if_pos h, List.getD_eq_getElem?_getD, List.getElem?_eq_getElem (by omega)]
  rfl
theorem plan_best {m : Mp} (hm : MapOk m) (l : List Inc) {nodes : List Int} (h8 : nodes.length ≤ 8) : ((planF m l nodes).2 = 0 ∧ OkT (kOf l nodes) nodes.length (planF m l nodes).1) ∧ ∀ q, OkT (kOf l nodes) nodes.length q → sumR (cst m l nodes (planF m l nodes).1) (kOf l nodes) ≤ sumR (cst m l nodes q) (kOf l nodes) := by
  have hk : kOf l nodes ≤ nodes.length := by unfold kOf; omega
  have hrl := runs_len l nodes
  by_cases hlt : kOf l nodes < nodes.length
  · have hP : planF m l nodes = (greedy nodes.length (matR m (runsF l nodes) nodes) 0, 0) := by unfold planF; rw [if_neg (by omega), if_pos hlt]
    have hg := matR_good hm (runs := runsF l nodes) (nodes := nodes) (by omega) h8
    have hml : (matR m (runsF l nodes) nodes).length = kOf l nodes := by unfold matR matF; rw [List.length_map, hrl]
    obtain ⟨⟨g1, g2⟩, g3⟩ := good_greedy hg
    obtain ⟨⟨_, _⟩, hok⟩ := hg
    have hpop : popF 0 + (matR m (runsF l nodes) nodes).length ≤ nodes.length := by unfold popF; simp; omega
    have hcell : ∀ q, OkT (kOf l nodes) nodes.length q → ∀ i, i < kOf l nodes → cellM (matR m (runsF l nodes) nodes) q i = cst m l nodes q i := by
      intro q hq i hi
      obtain ⟨x, hx⟩ : ∃ x, q[i]? = some x := ⟨_, List.getElem?_eq_getElem (by rw [hq.len]; exact hi)⟩
      have hxr := hq.rg x (List.mem_of_getElem? hx)
      obtain ⟨n, hn⟩ : ∃ n, nodes[x.toNat]? = some n := ⟨_, List.getElem?_eq_getElem (by omega)⟩
      have e1 : (matR m (runsF l nodes) nodes).getD i [] = nodes.map fun n => costF m n (runId l ((urgF l).getD i 0)) := by
        unfold matR matF
        rw [List.getD_eq_getElem?_getD, List.getElem?_map, run_at hi]; rfl
      have e2 : q.getD i 0 = x := by rw [List.getD_eq_getElem?_getD, hx]; rfl
      have e3 : nodes.getD x.toNat 0 = n := by rw [List.getD_eq_getElem?_getD, hn]; rfl
      have e4 : (nodes.map fun n => costF m n (runId l ((urgF l).getD i 0))).getD x.toNat 0 = costF m n (runId l ((urgF l).getD i 0)) := by rw [List.getD_eq_getElem?_getD, List.getElem?_map, hn]; rfl
      unfold cellM cst
      rw [e1, e2, e3, e4]
    have hT : OkT (kOf l nodes) nodes.length (planF m l nodes).1 := by rw [hP]; exact ⟨by rw [g1, hml], g2, g3⟩
    refine ⟨⟨by rw [hP], hT⟩, fun q hq => ?_⟩
    rw [← sumR_congr (hcell _ hT), ← sumR_congr (hcell q hq), hP, ← hml]
    rw [minF_att h8 hok (Nat.two_pow_pos _) hpop]
    refine minF_le h8 hok (Nat.two_pow_pos _) hpop (by rw [hq.len, hml]) hq.nd fun x hx => ?_
    have := hq.rg x hx
    exact ⟨x.toNat, by omega, by omega, by simp⟩
  · have hkn : kOf l nodes = nodes.length := by omega
    have hP : planF m l nodes = (fillT (greedy (kOf l nodes) (matN m nodes (runsF l nodes)) 0) (kOf l nodes) (kOf l nodes), 0) := by unfold planF; rw [if_neg (by omega), if_neg hlt]
    have hg := matN_good hm (runs := runsF l nodes) (nodes := nodes) (by omega) (by omega)
    rw [hrl] at hg
    have hml : (matN m nodes (runsF l nodes)).length = kOf l nodes := by unfold matN matF; rw [List.length_map]; omega
    obtain ⟨⟨g1, g2⟩, g3⟩ := good_greedy hg
    obtain ⟨⟨hc1, hc2⟩, hok⟩ := hg
    obtain ⟨k, hke⟩ : ∃ k, kOf l nodes = k := ⟨_, rfl⟩
    rw [hke] at hP hml hrl hkn hok g1 g2 g3 hk hc1 hc2 ⊢
    obtain ⟨B, hB⟩ : ∃ B, greedy k (matN m nodes (runsF l nodes)) 0 = B := ⟨_, rfl⟩
    rw [hB] at hP g1 g2 g3
    have hBp : PermK k B := ⟨by rw [g1, hml], g2, g3⟩
    rw [fill_inv hBp] at hP
    have hIp := inv_perm hBp
    have hpop : popF 0 + (matN m nodes (runsF l nodes)).length ≤ k := by unfold popF; simp; omega
    have hcell : ∀ q, PermK k q → ∀ j, j < k → cellM (matN m nodes (runsF l nodes)) q j = costF m (nodes.getD j 0) (runId l ((urgF l).getD (q.getD j 0).toNat 0)) := by
      intro q hq j hj
      obtain ⟨x, hx⟩ : ∃ x, q[j]? = some x := ⟨_, List.getElem?_eq_getElem (by rw [hq.len]; exact hj)⟩
      have hxr := hq.rg x (List.mem_of_getElem? hx)
      obtain ⟨n, hn⟩ : ∃ n, nodes[j]? = some n := ⟨_, List.getElem?_eq_getElem (by omega)⟩
      have e1 : (matN m nodes (runsF l nodes)).getD j [] = (runsF l nodes).map fun r => costF m n r := by
        unfold matN matF
        rw [List.getD_eq_getElem?_getD, List.getElem?_map, hn]; rfl
      have e2 : q.getD j 0 = x := by rw [List.getD_eq_getElem?_getD, hx]; rfl
      have e3 : nodes.getD j 0 = n := by rw [List.getD_eq_getElem?_getD, hn]; rfl
      have e4 : ((runsF l nodes).map fun r => costF m n r).getD x.toNat 0 = costF m n (runId l ((urgF l).getD x.toNat 0)) := by rw [List.getD_eq_getElem?_getD, List.getElem?_map, run_at (by omega)]; rfl
      unfold cellM
      rw [e1, e2, e3, e4]
    have hT : OkT k nodes.length (planF m l nodes).1 := by rw [hP]; exact ⟨hIp.len, hIp.nd, fun x hx => by have := hIp.rg x hx; omega⟩
    refine ⟨⟨by rw [hP], hT⟩, fun q hq => ?_⟩
    have hqp : PermK k q := ⟨hq.len, hq.nd, fun x hx => by have := hq.rg x hx; omega⟩
    have e1 := sum_inv hBp fun j i => costF m (nodes.getD j 0) (runId l ((urgF l).getD i 0))
    have e2 := sum_inv hqp fun i t => costF m (nodes.getD t 0) (runId l ((urgF l).getD i 0))
    have e3 : sumR (cst m l nodes (planF m l nodes).1) k = minF k (matN m nodes (runsF l nodes)) 0 := by
      have h1 := minF_att (by omega) hok (Nat.two_pow_pos _) hpop
      rw [hB, hml] at h1
      rw [← h1, sumR_congr (hcell B hBp), e1, hP]
    have e4 : sumR (cst m l nodes q) k = sumR (cellM (matN m nodes (runsF l nodes)) (invI q k)) k := by
      rw [sumR_congr (hcell _ (inv_perm hqp))]; exact e2
    rw [e3, e4]
    have hle := minF_le (q := invI q k) (by omega) hok (Nat.two_pow_pos _) hpop (by rw [(inv_perm hqp).len, hml]) (inv_perm hqp).nd (fun x hx => by
      have := (inv_perm hqp).rg x hx
      exact ⟨x.toNat, by omega, by omega, by simp⟩)
    rwa [hml] at hle

end Go.Proofs.Ytoeichkblclfaaa
