/- What the laws of Split ask: plain. No program in sight. -/
import Derived.Test.YtepacknnggnifaaFO
import Derived.Test.YtepacknnggnifaaFM
import Derived.Test.YtepacknnggnifaaFF
namespace Go.Proofs.Ytepacknnggnifaa
open Go.RowKit

theorem perm_sum {l l' : List Int} (h : l.Perm l') : l.sum = l'.sum := by
  induction h with
  | nil => rfl
  | cons x _ ih => simp only [List.sum_cons, ih]
  | swap x y l => simp only [List.sum_cons]; omega
  | trans _ _ h1 h2 => exact h1.trans h2
theorem rL_keys (a : Int) (ws : List Int) : (rL a ws).sum = ((ordL (rL a ws)).map (keyR (rL a ws))).sum := by
  have h1 : rL a ws = (idxL (rL a ws).length).map (keyR (rL a ws)) := by
    apply List.ext_getElem?
    intro i
    by_cases h : i < (rL a ws).length
    · obtain ⟨x, hx⟩ := getElem_some h
      rw [List.getElem?_map, idxL_get h, hx]
      show _ = some (keyR (rL a ws) i)
      simp [keyR, List.getD, hx]
    · rw [List.getElem?_eq_none (by omega), List.getElem?_eq_none (by rw [List.length_map, idxL_len]; omega)]
  rw [perm_sum ((ordL_sorted (rL a ws)).1.map (keyR (rL a ws))), ← h1]
theorem sum_le {B : Int} : ∀ {l : List Int}, (∀ x ∈ l, x ≤ B) → l.sum ≤ B * l.length
  | [], _ => by simp
  | x :: r, h => by
    have h1 := sum_le (l := r) fun y hy => h y (by simp [hy])
    have h2 := h x (by simp)
    simp only [List.sum_cons, List.length_cons, Int.natCast_add, Int.mul_add]
    omega
section
variable {a : Int} {ws : List Int} (g : Good a ws)
theorem ordN0 (a : Int) (ws : List Int) : ∀ i ∈ (ordL (rL a ws)).take (leftN a ws), 0 ≤ i := fun i hi => by
  obtain ⟨k, _, rfl⟩ := ordL_mem (List.mem_of_mem_take hi); omega
theorem ordNd (a : Int) (ws : List Int) : ((ordL (rL a ws)).take (leftN a ws)).Nodup := (ordL_nodup _).sublist (List.take_sublist _ _)
theorem parts_get {j : Nat} {w : Int} (h : ws[j]? = some w) : (partsL a ws)[j]? = some (a * w / ws.sum + if (j : Int) ∈ (ordL (rL a ws)).take (leftN a ws) then 1 else 0) :=
  incs_get _ _ j _ (ordNd a ws) (ordN0 a ws) (qL_get h)
theorem key_at {j : Nat} {w : Int} (h : ws[j]? = some w) : keyR (rL a ws) j = a * w % ws.sum := by
  simp [keyR, List.getD, rL_get h]
include g
/-- Who has one more has a rest. -/
theorem chosen_pos {j : Nat} {w : Int} (hw : ws[j]? = some w) (hm : (j : Int) ∈ (ordL (rL a ws)).take (leftN a ws)) : a * w % ws.sum ≠ 0 := by
  intro h0
  obtain ⟨p, hp⟩ := List.getElem?_of_mem hm
  rw [List.getElem?_take] at hp
  split at hp
  · rename_i hpl
    have hs := g.s0
    have hrs := rL_sum a ws
    obtain ⟨hle, hlt⟩ := g.left
    rw [← hle, rL_keys, ← List.take_append_drop p (ordL (rL a ws)), List.map_append, List.sum_append] at hrs
    have h1 : (((ordL (rL a ws)).drop p).map (keyR (rL a ws))).sum ≤ 0 * ((((ordL (rL a ws)).drop p).map (keyR (rL a ws))).length : Int) := by
      refine sum_le fun x hx => ?_
      obtain ⟨y, hy, rfl⟩ := List.mem_map.1 hx
      obtain ⟨q, hq⟩ := List.getElem?_of_mem hy
      rw [List.getElem?_drop] at hq
      have := key_mono (ordL_sorted (rL a ws)).2 hp hq (by omega)
      rw [key_at hw, h0] at this
      exact this
    have h2 : (((ordL (rL a ws)).take p).map (keyR (rL a ws))).sum ≤ ws.sum * ((((ordL (rL a ws)).take p).map (keyR (rL a ws))).length : Int) := by
      refine sum_le fun x hx => ?_
      obtain ⟨y, hy, rfl⟩ := List.mem_map.1 hx
      obtain ⟨i, hi, rfl⟩ := ordL_mem (List.mem_of_mem_take hy)
      rw [rL_len] at hi
      obtain ⟨v, hv⟩ := getElem_some hi
      rw [key_at hv]
      have := g.r v; omega
    rw [List.length_map, List.length_take, ordL_len, rL_len] at h2
    have h3 : ws.sum * ((min p ws.length : Nat) : Int) ≤ ws.sum * ((leftN a ws : Int) - 1) := Int.mul_le_mul_of_nonneg_left (by omega) (by omega)
    rw [Int.mul_sub, Int.mul_one, Int.mul_comm ws.sum (leftN a ws : Int)] at h3
    omega
  · cases hp
theorem parts_ok {j : Nat} {w : Int} (hw : ws[j]? = some w) {p : Int} (hp : (partsL a ws)[j]? = some p) : okP a ws.sum w p := by
  rw [parts_get hw] at hp
  cases hp
  by_cases h : (j : Int) ∈ (ordL (rL a ws)).take (leftN a ws)
  · rw [if_pos h]; exact .inr ⟨chosen_pos g hw h, rfl⟩
  · rw [if_neg h]; exact .inl (by omega)
theorem fair_parts : fairP a ws (partsL a ws) := by
  refine ⟨partsL_len a ws, fun x hx => ?_, g.sum⟩
  obtain ⟨j, hj⟩ := List.getElem?_of_mem hx
  obtain ⟨h1, h2⟩ := List.getElem?_zip_eq_some.1 hj
  exact parts_ok g h1 h2
omit g in
theorem ord_ahead {x y : Int} {m : Nat} (hb : bef (keyR (rL a ws)) x y) (hx : x ∈ ordL (rL a ws)) (hy : y ∈ (ordL (rL a ws)).take m) : x ∈ (ordL (rL a ws)).take m := by
  obtain ⟨p, hp⟩ := List.getElem?_of_mem hy
  rw [List.getElem?_take] at hp
  split at hp
  · rename_i hpm
    obtain ⟨q, hq⟩ := List.getElem?_of_mem hx
    by_cases h : q < m
    · exact List.mem_of_getElem? (i := q) (by rw [List.getElem?_take, if_pos h]; exact hq)
    · obtain ⟨p1, e1⟩ := List.getElem?_eq_some_iff.1 hp
      obtain ⟨p2, e2⟩ := List.getElem?_eq_some_iff.1 hq
      have := List.pairwise_iff_getElem.1 (ordL_sorted (rL a ws)).2 p q p1 p2 (by omega)
      rw [e1, e2] at this
      rw [bef_asymm hb this]; exact hy
  · cases hp
/-- A greater weight has no smaller part, and of two that are the same the first has no smaller one. -/
theorem parts_mono {u v : Nat} {wu wv pu pv : Int} (hu : ws[u]? = some wu) (hv : ws[v]? = some wv) (hpu : (partsL a ws)[u]? = some pu) (hpv : (partsL a ws)[v]? = some pv) (hle : wu ≤ wv) (h : wu < wv ∨ v < u) : pu ≤ pv := by
  rw [parts_get hu] at hpu
  rw [parts_get hv] at hpv
  cases hpu; cases hpv
  have hs := g.s0
  have ha := g.a0
  have hm : a * wu ≤ a * wv := Int.mul_le_mul_of_nonneg_left hle ha
  have hq : a * wu / ws.sum ≤ a * wv / ws.sum := Int.ediv_le_ediv hs hm
  have e1 := Int.mul_ediv_add_emod (a * wu) ws.sum
  have e2 := Int.mul_ediv_add_emod (a * wv) ws.sum
  by_cases hlt : a * wu / ws.sum < a * wv / ws.sum
  · split <;> split <;> omega
  have heq : a * wu / ws.sum = a * wv / ws.sum := by omega
  by_cases hcu : (u : Int) ∈ (ordL (rL a ws)).take (leftN a ws)
  · have hr := chosen_pos g hu hcu
    have hbf : bef (keyR (rL a ws)) v u := by
      unfold bef
      rw [key_at hu, key_at hv]
      rw [heq] at e1
      by_cases hlt2 : a * wu % ws.sum < a * wv % ws.sum
      · exact .inl hlt2
      · have hme : a * wu = a * wv := by omega
        refine .inr ⟨by omega, ?_⟩
        rcases h with h | h
        · exfalso
          have ha0 : a = 0 := by
            by_cases h0 : a = 0
            · exact h0
            · have := Int.mul_lt_mul_of_pos_left h (show 0 < a by omega)
              omega
          rw [ha0, Int.zero_mul, Int.zero_emod] at hr
          exact hr rfl
        · omega
    have hvo : (v : Int) ∈ ordL (rL a ws) := (ordL_sorted (rL a ws)).1.mem_iff.2 (idxL_mem.2 ⟨v, by rw [rL_len]; exact (List.getElem?_eq_some_iff.1 hv).1, rfl⟩)
    rw [if_pos hcu, if_pos (ord_ahead hbf hvo hcu), heq]; exact Int.le_refl _
  · rw [if_neg hcu]
    split <;> omega
end

/-! ### equal weights -/
theorem sum_rep (w : Int) : ∀ n : Nat, (List.replicate n w).sum = n * w
  | 0 => by simp
  | n + 1 => by rw [List.replicate_succ, List.sum_cons, sum_rep w n, Int.natCast_add, Int.add_mul]; omega
theorem idxL_take {m n : Nat} (h : m ≤ n) : (idxL n).take m = idxL m := by
  apply List.ext_getElem?
  intro i
  rw [List.getElem?_take]
  by_cases hi : i < m
  · rw [if_pos hi, idxL_get hi, idxL_get (by omega)]
  · rw [if_neg hi, List.getElem?_eq_none (by rw [idxL_len]; omega)]
theorem even_split {a n w : Int} (he : evErr a n = 0) (w0 : 1 ≤ w) (w1 : w ≤ 1000000000) : splT a (List.replicate n.toNat w) = .tup [L 1 ((evenL a n n.toNat).map e1), I 0] := by
  unfold evErr at he
  split at he
  · omega
  split at he
  · omega
  rename_i ha hn
  obtain ⟨N, rfl⟩ := Int.eq_ofNat_of_zero_le (show 0 ≤ n by omega)
  rw [Int.toNat_natCast]
  have hsum := sum_rep w N
  have hNw : 1 * w ≤ (N : Int) * w := Int.mul_le_mul_of_nonneg_right (by omega) (by omega)
  have hNw2 : (N : Int) * w ≤ 64 * w := Int.mul_le_mul_of_nonneg_right (by omega) (by omega)
  have g : Good a (List.replicate N w) := ⟨by rw [List.length_replicate]; omega, by omega, by omega, fun x hx => by rw [List.eq_of_mem_replicate hx]; omega, by rw [hsum]; omega, by rw [hsum]; omega⟩
  have hq : a * w / (N * w) = a / N := Int.mul_ediv_mul_of_pos_left _ _ (by omega)
  have hr : a * w % (N * w) = a % N * w := by
    rw [Int.emod_def, hq, Int.emod_def, Int.sub_mul]
    congr 1
    rw [Int.mul_right_comm]
  have hqL : qL a (List.replicate N w) = List.replicate N (a / N) := by rw [qL, hsum, List.map_replicate, hq]
  have hrL : rL a (List.replicate N w) = List.replicate N (a % N * w) := by rw [rL, hsum, List.map_replicate, hr]
  have hlf : leftN a (List.replicate N w) = (a % N).toNat := by
    rw [leftN, hqL, sum_rep]
    congr 1
    have := Int.mul_ediv_add_emod a N
    omega
  have hm0 := Int.emod_nonneg a (show (N : Int) ≠ 0 by omega)
  have hm1 := Int.emod_lt_of_pos a (show 0 < (N : Int) by omega)
  have hord : ordL (rL a (List.replicate N w)) = idxL N := by
    have h1 := ordL_sorted (rL a (List.replicate N w))
    rw [rL_len, List.length_replicate] at h1
    refine sorted_uniq h1 ⟨.refl _, (idxL_lt N).imp_of_mem fun {x y} hx hy h => .inr ⟨?_, h⟩⟩
    obtain ⟨i, hi, rfl⟩ := idxL_mem.1 hx
    obtain ⟨j, hj, rfl⟩ := idxL_mem.1 hy
    rw [hrL]
    simp [keyR, List.getD, hi, hj]
  have hparts : partsL a (List.replicate N w) = evenL a N N := by
    rw [partsL, hord, hlf, idxL_take (by omega), hqL]
    apply List.ext_getElem?
    intro i
    by_cases hi : i < N
    · rw [incs_get _ _ i (a / N) (idxL_nodup _) (fun x hx => by obtain ⟨k, _, rfl⟩ := idxL_mem.1 hx; omega) (by rw [List.getElem?_replicate, if_pos hi])]
      rw [evenL, List.getElem?_map, List.getElem?_range hi]
      show _ = some (evI a N i)
      unfold evI
      congr 2
      by_cases hc : (i : Int) < a % N
      · rw [if_pos hc, if_pos (idxL_mem.2 ⟨i, by omega, rfl⟩)]
      · rw [if_neg hc, if_neg]
        rintro h
        obtain ⟨k, hk, e⟩ := idxL_mem.1 h
        omega
    · rw [List.getElem?_eq_none (by rw [incs_len, List.length_replicate]; omega), List.getElem?_eq_none (by rw [evenL_len]; omega)]
  unfold splT
  rw [g.chk, if_pos rfl, hparts]

/-! ### sums -/
theorem amt_comm (a b : List Share) : amt (a ++ b) = amt (b ++ a) := by
  funext o
  simp only [amt, List.map_append, List.sum_append]; omega
theorem fewL_comm (a b : List Share) : fewL (a ++ b) = fewL (b ++ a) := by
  have hk : keysL (a ++ b) = keysL (b ++ a) := lt_uniq (keysL_spec _).1 (keysL_spec _).1 fun z => by
    rw [(keysL_spec _).2, (keysL_spec _).2, List.map_append, List.map_append, List.mem_append, List.mem_append]
    exact ⟨Or.symm, Or.symm⟩
  rw [fewL, fewL, tabL, tabL, hk, amt_comm]
theorem fewL_lt (p : List Share) : (fewL p).Pairwise fun x y => x.o < y.o := (tab_lt p).sublist List.filter_sublist
theorem fewL_nz {p : List Share} {x : Share} (h : x ∈ fewL p) : x.a ≠ 0 := of_decide_eq_true (List.mem_filter.1 h).2
theorem one_sum {o c : Int} : ∀ {ks : List Int}, ks.Nodup → o ∈ ks → (ks.map fun z => if o = z then c else 0).sum = c
  | [], _, h => by simp at h
  | y :: r, hn, h => by
    obtain ⟨h1, h2⟩ := List.nodup_cons.1 hn
    rw [List.map_cons, List.sum_cons]
    by_cases e : o = y
    · subst e
      rw [if_pos rfl]
      have : ∀ {l : List Int}, o ∉ l → (l.map fun z => if o = z then c else 0).sum = 0 := by
        intro l
        induction l with
        | nil => intro _; rfl
        | cons z t ih => intro h; rw [List.map_cons, List.sum_cons, if_neg (fun e => h (by simp [e])), ih fun e => h (by simp [e])]; rfl
      rw [this h1]; omega
    · rw [if_neg e, one_sum h2 (by rcases List.mem_cons.1 h with h | h; exact absurd h e; exact h)]; omega
theorem zero_sum : ∀ l : List Int, (l.map fun _ => (0 : Int)).sum = 0
  | [] => rfl
  | y :: r => by rw [List.map_cons, List.sum_cons, zero_sum r]; rfl
theorem amt_sum {ks : List Int} (hn : ks.Nodup) : ∀ {p : List Share}, (∀ x ∈ p, x.o ∈ ks) → (ks.map (amt p)).sum = (p.map fun x : Share => x.a).sum
  | [], _ => by
    have : ks.map (amt []) = ks.map fun _ => 0 := rfl
    rw [this, zero_sum]; rfl
  | x :: r, h => by
    have h1 := amt_sum hn (p := r) fun y hy => h y (by simp [hy])
    have h2 := one_sum (c := x.a) hn (h x (by simp))
    have h3 : ∀ l : List Int, (l.map (amt (x :: r))).sum = (l.map fun z => if x.o = z then x.a else 0).sum + (l.map (amt r)).sum := by
      intro l
      induction l with
      | nil => rfl
      | cons z t ih =>
        have e : amt (x :: r) z = (if x.o = z then x.a else 0) + amt r z := by simp only [amt, List.map_cons, List.sum_cons]
        simp only [List.map_cons, List.sum_cons, ih, e]; omega
    rw [h3, h1, h2, List.map_cons, List.sum_cons]
theorem nz_sum : ∀ l : List Share, ((l.filter fun x => decide (x.a ≠ 0)).map fun x : Share => x.a).sum = (l.map fun x : Share => x.a).sum
  | [] => rfl
  | x :: r => by
    have ih := nz_sum r
    rw [List.filter_cons]
    split
    · rw [List.map_cons, List.map_cons, List.sum_cons, List.sum_cons, ih]
    · rename_i h
      simp at h
      rw [ih, List.map_cons, List.sum_cons, h]; omega
theorem few_sum (p : List Share) : ((fewL p).map fun x : Share => x.a).sum = (p.map fun x : Share => x.a).sum := by
  rw [fewL, nz_sum, tabL, List.map_map]
  have h1 := (keysL_spec p)
  exact amt_sum (h1.1.imp fun h => by omega) fun x hx => (h1.2 _).2 (List.mem_map.2 ⟨x, hx, rfl⟩)
theorem runO_sum : ∀ {l : List Int} {s v : Int}, runO s l = some v → -1099511627776 ≤ s ∧ s ≤ 1099511627776 → v = s + l.sum ∧ -1099511627776 ≤ v ∧ v ≤ 1099511627776
  | [], s, v, h, hb => by simp [runO] at h; subst h; simp; exact hb
  | x :: r, s, v, h, hb => by
    rw [runO] at h
    cases hp : plusF s x with
    | none => rw [hp] at h; cases h
    | some t =>
      rw [hp] at h
      have ht : t = s + x := by
        unfold plusF at hp
        split at hp
        · cases hp
        · cases hp; rfl
      have := runO_sum (l := r) h (plusF_bnd hp)
      rw [List.sum_cons]; omega
theorem sums_total {a b : List Share} {n m k : Int} (hn : runO 0 (a.map fun x : Share => x.a) = some n) (hm : runO 0 (b.map fun x : Share => x.a) = some m) (hk : runO 0 ((fewL (a ++ b)).map fun x : Share => x.a) = some k) : k = n + m := by
  have h1 := (runO_sum hn (by omega)).1
  have h2 := (runO_sum hm (by omega)).1
  have h3 := (runO_sum hk (by omega)).1
  rw [few_sum, List.map_append, List.sum_append] at h3
  omega

/-! ### a weight of 0, a single weight -/
theorem alone_chk {a : Int} {ws : List Int} (hl : ws.length ≤ 63) : chkF a (ws ++ [0]) = chkF a ws := by
  unfold chkF
  rw [List.length_append, if_neg (by simp; omega), if_neg (show ¬ 64 < ws.length by omega)]
  congr 1
  have h1 : (∀ w ∈ ws ++ [0], okW w) ↔ ∀ w ∈ ws, okW w := by
    refine ⟨fun h w hw => h w (List.mem_append.2 (.inl hw)), fun h w hw => ?_⟩
    rcases List.mem_append.1 hw with hw | hw
    · exact h w hw
    · simp at hw; subst hw; unfold okW; omega
  have h2 : (ws ++ [0]).sum = ws.sum := by rw [List.sum_append]; simp
  rw [h2]
  by_cases h : ∀ w ∈ ws, okW w
  · rw [if_pos h, if_pos (h1.2 h)]
  · rw [if_neg h, if_neg fun e => h (h1.1 e)]
theorem incs_app : ∀ (T l : List Int) (z : List Int), (∀ i ∈ T, ∃ k : Nat, k < l.length ∧ i = k) → incs (l ++ z) T = incs l T ++ z
  | [], _, _, _ => rfl
  | i :: r, l, z, h => by
    obtain ⟨k, hk, rfl⟩ := h i (by simp)
    have h1 : incr (l ++ z) k = incr l k ++ z := by
      rw [incr, incr, Int.toNat_natCast, List.set_append_left _ _ hk, List.getD, List.getD, List.getElem?_append_left hk]
    show incs (incr (l ++ z) k) r = incs (incr l k) r ++ z
    rw [h1, incs_app r _ z fun j hj => by rw [incr_len]; exact h j (by simp [hj])]
theorem alone_parts {a : Int} {ws : List Int} (g : Good a ws) : partsL a (ws ++ [0]) = partsL a ws ++ [0] := by
  have hs : (ws ++ [0]).sum = ws.sum := by rw [List.sum_append]; simp
  have hq : qL a (ws ++ [0]) = qL a ws ++ [0] := by rw [qL, qL, hs, List.map_append]; simp
  have hr : rL a (ws ++ [0]) = rL a ws ++ [0] := by rw [rL, rL, hs, List.map_append]; simp
  have hlf : leftN a (ws ++ [0]) = leftN a ws := by rw [leftN, leftN, hq, List.sum_append]; simp
  have ho : ordL (rL a ws ++ [0]) = ordL (rL a ws) ++ [(ws.length : Int)] := by
    have h1 := ordL_sorted (rL a ws ++ [0])
    have h2 := ordL_sorted (rL a ws)
    rw [List.length_append, rL_len] at h1
    rw [rL_len] at h2
    have hi : idxL (ws.length + [(0 : Int)].length) = idxL ws.length ++ [(ws.length : Int)] := by
      show idxL (ws.length + 1) = _
      rw [idxL, idxL, List.range_succ, List.map_append]; rfl
    rw [hi] at h1
    have hk : ∀ x ∈ ordL (rL a ws), keyR (rL a ws ++ [0]) x = keyR (rL a ws) x ∧ 0 ≤ keyR (rL a ws) x ∧ x < ws.length := by
      intro x hx
      obtain ⟨i, hi, rfl⟩ := ordL_mem hx
      rw [rL_len] at hi
      obtain ⟨w, hw⟩ := getElem_some hi
      refine ⟨?_, by rw [key_at hw]; exact (g.r w).1, by omega⟩
      simp only [keyR, Int.toNat_natCast, List.getD]
      rw [List.getElem?_append_left (by rw [rL_len]; exact hi)]
    refine sorted_uniq h1 ⟨h2.1.append_right _, List.pairwise_append.2 ⟨?_, List.pairwise_singleton _ _, fun x hx y hy => ?_⟩⟩
    · refine h2.2.imp_of_mem fun {x y} hx hy h => ?_
      unfold bef at h ⊢
      rw [(hk x hx).1, (hk y hy).1]; exact h
    · simp at hy; subst hy
      have := hk x hx
      unfold bef
      have hz : keyR (rL a ws ++ [0]) (ws.length : Int) = 0 := by
        simp only [keyR, Int.toNat_natCast, List.getD]
        rw [List.getElem?_append_right (by rw [rL_len]; exact Nat.le_refl _), rL_len, Nat.sub_self]; rfl
      rw [hz]; omega
  have hl := g.left
  rw [partsL, hq, hr, hlf, ho, List.take_append_of_le_length (by rw [ordL_len, rL_len]; omega), incs_app _ _ _ fun i hi => by rw [qL_len, ← rL_len a ws]; exact ordL_mem (List.mem_of_mem_take hi)]
  rfl
theorem only_sum (v : Int) : ∀ (n i : Nat), i < n → ((List.replicate n (0 : Int)).set i v).sum = v
  | 0, i, h => by omega
  | n + 1, 0, _ => by rw [List.replicate_succ, List.set_cons_zero, List.sum_cons, sum_rep]; omega
  | n + 1, i + 1, h => by rw [List.replicate_succ, List.set_cons_succ, List.sum_cons, only_sum v n i (by omega)]; omega
theorem only_get {v : Int} {n i k : Nat} (hk : k < n) : ((List.replicate n (0 : Int)).set i v)[k]? = some (if k = i then v else 0) := by
  by_cases e : k = i
  · subst e; rw [if_pos rfl, List.getElem?_set_self (by rw [List.length_replicate]; exact hk)]
  · rw [if_neg e, List.getElem?_set_ne (by omega), List.getElem?_replicate, if_pos hk]
theorem only_parts {a v : Int} {n i : Nat} (a0 : 0 ≤ a) (a1 : a ≤ 1099511627776) (hn : n ≤ 63) (hi : i < n) (v0 : 1 ≤ v) (v1 : v ≤ 1000000000) :
    Good a ((List.replicate n (0 : Int)).set i v) ∧ partsL a ((List.replicate n (0 : Int)).set i v) = (List.replicate n (0 : Int)).set i a := by
  have hs := only_sum v n i hi
  have hmem : ∀ w ∈ (List.replicate n (0 : Int)).set i v, w = 0 ∨ w = v := by
    intro w hw
    obtain ⟨k, hk⟩ := List.getElem?_of_mem hw
    have hkl := (List.getElem?_eq_some_iff.1 hk).1
    rw [List.length_set, List.length_replicate] at hkl
    rw [only_get hkl] at hk
    cases hk
    split
    · exact .inr rfl
    · exact .inl rfl
  have g : Good a ((List.replicate n (0 : Int)).set i v) := ⟨by rw [List.length_set, List.length_replicate]; omega, a0, a1, fun w hw => by rcases hmem w hw with h | h <;> omega, by omega, by omega⟩
  refine ⟨g, ?_⟩
  have hr0 : ∀ x ∈ rL a ((List.replicate n (0 : Int)).set i v), x ≤ 0 := by
    intro x hx
    obtain ⟨w, hw, rfl⟩ := List.mem_map.1 hx
    rw [hs]
    rcases hmem w hw with rfl | rfl
    · simp
    · rw [Int.mul_emod_left]; exact Int.le_refl _
  have h1 := sum_le hr0
  rw [Int.zero_mul, rL_sum, hs] at h1
  obtain ⟨hle, hlt⟩ := g.left
  rw [← hle] at h1
  have hl0 : leftN a ((List.replicate n (0 : Int)).set i v) = 0 := by
    by_cases h : leftN a ((List.replicate n (0 : Int)).set i v) = 0
    · exact h
    · have : 1 * v ≤ (leftN a ((List.replicate n (0 : Int)).set i v) : Int) * v := Int.mul_le_mul_of_nonneg_right (by omega) (by omega)
      omega
  rw [partsL, hl0, List.take_zero]
  show qL a _ = _
  apply List.ext_getElem?
  intro k
  by_cases hk : k < n
  · rw [qL_get (only_get hk), only_get hk, hs]
    split
    · rw [Int.mul_ediv_cancel _ (by omega)]
    · simp
  · rw [List.getElem?_eq_none (by rw [qL_len, List.length_set, List.length_replicate]; omega), List.getElem?_eq_none (by rw [List.length_set, List.length_replicate]; omega)]
end Go.Proofs.Ytepacknnggnifaa
