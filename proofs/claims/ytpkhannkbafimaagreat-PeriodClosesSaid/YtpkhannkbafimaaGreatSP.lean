/- Periods: the reference's Net. -/
import Derived.Test.YtpkhannkbafimaaGreatR2
import Derived.Test.YtpkhannkbafimaaGreatRO
namespace Go.Proofs.YtpkhannkbafimaaGreat
open Go.RowKit
/-- The order in which positions are taken. -/
def ordF (l : List Share) : Nat → Nat → List Share
  | 0, _ => []
  | f + 1, S => if S = 0 then [] else (l[pick (amt l) S]?).toList ++ ordF l f (S ^^^ 2 ^ pick (amt l) S)
/-- How many rests of a list have the sum 0. -/
def zc : List Share → Nat
  | [] => 0
  | x :: r => (if sumA (x :: r) = 0 then 1 else 0) + zc r
/-- How many transfers a list makes. -/
def trc : Int → List Share → Nat
  | c, x :: y :: r => (if c + x.a ≠ 0 then 1 else 0) + trc (c + x.a) (y :: r)
  | _, [_] => 0
  | _, [] => 0
theorem sumA_cons (x : Share) (r : List Share) : sumA (x :: r) = x.a + sumA r := by unfold sumA amt; rw [List.map_cons, List.sum_cons]
theorem trc_zc : ∀ (r : List Share) (x : Share) (c : Int), c + sumA (x :: r) = 0 → trc c (x :: r) + zc r = r.length
  | [], x, c, _ => rfl
  | y :: r, x, c, h => by
    rw [sumA_cons] at h
    have ih := trc_zc r y (c + x.a) (by omega)
    rw [trc, zc, List.length_cons]
    by_cases e : c + x.a = 0
    · rw [if_neg (Decidable.not_not.2 e), if_pos (by omega)]; omega
    · rw [if_pos e, if_neg (by omega)]; omega
structure OrdP (l : List Share) (S : Nat) (o : List Share) : Prop where
  mem : ∀ x ∈ o, ∃ i, l[i]? = some x ∧ S.testBit i = true
  dis : (o.map (·.o)).Nodup
  sum : sumA o = sumB (amt l) S
  len : o.length = cardTo S l.length
  zcn : zc o = mostB (amt l) S
theorem ord_spec {l : List Share} (h : Nz l) : ∀ (f S : Nat), S < f → S < 2 ^ l.length → OrdP l S (ordF l f S)
  | 0, S, hf, _ => by omega
  | f + 1, S, hf, hS => by
    have hle : (amt l).length = l.length := by simp [amt]
    have h256 := pow_le8 h.len
    have h8 := h.len
    rw [ordF]
    by_cases h0 : S = 0
    · rw [if_pos h0, h0]
      exact ⟨by simp, by simp, (sumB_zero _).symm, (cardTo_zero _).symm, (most_zero _).symm⟩
    rw [if_neg h0]
    obtain ⟨i, hil, hp, hpn⟩ := pick_ex (az := amt l) (by omega) (by rw [hle]; exact hS) h0
    rw [hle] at hil
    have hpk := pick_of (by omega) hp hpn
    obtain ⟨x, hx⟩ := getElem_some hil
    rw [hpk, hx]
    have hb : S.testBit i = true := by unfold pickP at hp; simp at hp; exact hp.1
    have hm : mostB (amt l) (S ^^^ 2 ^ i) = mostB (amt l) S - zB (amt l) S := by unfold pickP at hp; simp at hp; exact hp.2
    have hm' := most_le (az := amt l) (by omega) (by rw [hle]; exact hS) hb
    have hs := clr_lt (by omega) (by omega) hb
    have ha : (amt l).getD i 0 = x.a := by simp [amt, hx]
    have hsc := sumB_clr (az := amt l) hb (by omega)
    have hcc := cardTo_clr hb l.length
    rw [if_pos hil] at hcc
    have ih := ord_spec h f (S ^^^ 2 ^ i) (by omega) (by omega)
    show OrdP l S (x :: ordF l f (S ^^^ 2 ^ i))
    generalize ordF l f (S ^^^ 2 ^ i) = o at ih
    have hsum : sumA (x :: o) = sumB (amt l) S := by rw [sumA_cons, ih.sum]; omega
    refine ⟨fun y hy => ?_, ?_, hsum, by rw [List.length_cons, ih.len]; omega, ?_⟩
    · rcases List.mem_cons.1 hy with rfl | hy
      · exact ⟨i, hx, hb⟩
      · obtain ⟨j, hj, hbj⟩ := ih.mem y hy
        rw [clr_bit _ _ _ hb, Bool.and_eq_true] at hbj
        exact ⟨j, hj, hbj.1⟩
    · rw [List.map_cons, List.nodup_cons]
      refine ⟨fun hh => ?_, ih.dis⟩
      obtain ⟨y, hy, e⟩ := List.mem_map.1 hh
      obtain ⟨j, hj, hbj⟩ := ih.mem y hy
      have := h.idx hj hx e
      subst this
      rw [clr_bit _ _ _ hb] at hbj
      simp at hbj
    · rw [zc, hsum, ih.zcn]
      have hz : zB (amt l) S = if sumB (amt l) S = 0 then 1 else 0 := rfl
      rw [← hz]
      omega
theorem ord_fuel {l : List Share} (h : Nz l) : ∀ (f g S : Nat), S < f → S < g → S < 2 ^ l.length → ordF l f S = ordF l g S
  | 0, _, _, hf, _, _ => by omega
  | _ + 1, 0, _, _, hg, _ => by omega
  | f + 1, g + 1, S, hf, hg, hS => by
    rw [ordF, ordF]
    by_cases h0 : S = 0
    · rw [if_pos h0, if_pos h0]
    rw [if_neg h0, if_neg h0]
    have hle : (amt l).length = l.length := by simp [amt]
    have h256 := pow_le8 h.len
    have h8 := h.len
    obtain ⟨i, hil, hp, hpn⟩ := pick_ex (az := amt l) (by omega) (by rw [hle]; exact hS) h0
    have hpk := pick_of hil hp hpn
    have hb : S.testBit i = true := by unfold pickP at hp; simp at hp; exact hp.1
    have hs := clr_lt (by omega) (by omega) hb
    rw [hpk, ord_fuel h f g (S ^^^ 2 ^ i) (by omega) (by omega) (by omega)]
/-- The order from a set on. -/
def ordO (l : List Share) (S : Nat) : List Share := ordF l 256 S
theorem ordO_zero (l : List Share) : ordO l 0 = [] := rfl
theorem ordO_step {l : List Share} (h : Nz l) {S i : Nat} {x : Share} (hS : S < 2 ^ l.length) (h0 : S ≠ 0) (hi : pick (amt l) S = i) (hb : S.testBit i = true) (hx : l[i]? = some x) : ordO l S = x :: ordO l (S ^^^ 2 ^ i) := by
  have h256 := pow_le8 h.len
  have h8 := h.len
  have hil := (List.getElem?_eq_some_iff.1 hx).1
  have hs := clr_lt (S := S) (i := i) (by omega) (by omega) hb
  unfold ordO
  rw [show (256 : Nat) = 255 + 1 from rfl, ordF, if_neg h0, hi, hx, ord_fuel h 255 (255 + 1) (S ^^^ 2 ^ i) (by omega) (by omega) (by omega)]
  rfl
theorem ordO_spec {l : List Share} (h : Nz l) {S : Nat} (hS : S < 2 ^ l.length) : OrdP l S (ordO l S) := ord_spec h 256 S (by have := pow_le8 h.len; omega) hS
/-- The place of a transfer. -/
def placeT (l : List Tfer) (x : Tfer) : Nat := l.length - (l.reverse.takeWhile fun y => decide (keyLt x y)).length
def bubT (l : List Tfer) (x : Tfer) (j : Nat) : List Tfer := l.take j ++ x :: l.drop j
def insT (l : List Tfer) (x : Tfer) : List Tfer := bubT l x (placeT l x)
theorem bubT_end (l : List Tfer) (x : Tfer) : bubT l x l.length = l ++ [x] := by unfold bubT; rw [List.take_length, List.drop_length]
theorem bubT_len (l : List Tfer) (x : Tfer) (j : Nat) : (bubT l x j).length = l.length + 1 := by unfold bubT; simp; omega
theorem bubT_mem {l : List Tfer} {x y : Tfer} {j : Nat} : y ∈ bubT l x j ↔ y ∈ l ∨ y = x := by
  have hp : (bubT l x j).Perm (x :: l) := by
    unfold bubT
    refine List.perm_middle.trans ?_
    rw [List.take_append_drop]
  rw [hp.mem_iff, List.mem_cons]
  exact Or.comm
theorem bubT_at {l : List Tfer} {x : Tfer} {j : Nat} (h : j ≤ l.length) : (bubT l x j)[j]? = some x := by
  unfold bubT
  rw [List.getElem?_append_right (by rw [List.length_take]; omega), show j - (l.take j).length = 0 by rw [List.length_take]; omega]
  rfl
theorem bubT_pre {l : List Tfer} {x : Tfer} {j i : Nat} (h : i < j) (hj : j ≤ l.length) : (bubT l x j)[i]? = l[i]? := by
  unfold bubT
  rw [List.getElem?_append_left (by rw [List.length_take]; omega), List.getElem?_take_of_lt h]
/-- Two neighbours change places. -/
theorem bubT_swap {l : List Tfer} {x y : Tfer} {j : Nat} (hy : l[j]? = some y) : ((bubT l x (j + 1)).set (j + 1) y).set j x = bubT l x j := by
  have hj := (List.getElem?_eq_some_iff.1 hy).1
  unfold bubT
  rw [take_snoc l j y hy, drop_of hy, List.set_append_right _ _ (by rw [List.length_append, List.length_take]; simp; omega), show j + 1 - (l.take j ++ [y]).length = 0 by rw [List.length_append, List.length_take]; simp; omega, List.set_cons_zero, List.append_assoc,
    List.set_append_right _ _ (by rw [List.length_take]; omega), show j - (l.take j).length = 0 by rw [List.length_take]; omega]
  rfl
theorem place_of {l : List Tfer} {x : Tfer} {j : Nat} (hj : j ≤ l.length) (h1 : ∀ y ∈ l.drop j, keyLt x y) (h2 : ∀ i y, j = i + 1 → l[i]? = some y → ¬ keyLt x y) : placeT l x = j := by
  have key : (l.reverse.takeWhile fun y => decide (keyLt x y)) = (l.drop j).reverse := by
    conv => lhs; rw [← List.take_append_drop j l]
    rw [List.reverse_append, List.takeWhile_append_of_pos (fun y hy => decide_eq_true (h1 y (List.mem_reverse.1 hy)))]
    cases j with
    | zero => simp
    | succ i =>
      obtain ⟨y, hy⟩ := getElem_some (show i < l.length by omega)
      rw [take_snoc l i y hy, List.reverse_append, List.reverse_singleton, List.singleton_append, List.takeWhile_cons_of_neg (by rw [decide_eq_true_iff]; exact h2 i y rfl hy), List.append_nil]
  unfold placeT
  rw [key, List.length_reverse, List.length_drop]
  omega
/-- What a step of the carry adds. -/
def stpT (c : Int) (x y : Share) (out : List Tfer) : List Tfer := if 0 < c then insT out ⟨y.o, x.o, c⟩ else if c < 0 then insT out ⟨x.o, y.o, -c⟩ else out
def rtrR : Int → List Share → List Tfer → List Tfer
  | c, x :: y :: r, out => rtrR (c + x.a) (y :: r) (stpT (c + x.a) x y out)
  | _, [_], out => out
  | _, [], out => out
theorem stp_len (c : Int) (x y : Share) (out : List Tfer) : (stpT c x y out).length = out.length + if c ≠ 0 then 1 else 0 := by
  unfold stpT
  by_cases h1 : 0 < c
  · rw [if_pos h1, if_pos (by omega)]; exact bubT_len _ _ _
  rw [if_neg h1]
  by_cases h2 : c < 0
  · rw [if_pos h2, if_pos (by omega)]; exact bubT_len _ _ _
  · rw [if_neg h2, if_neg (by omega)]; rfl
theorem rtr_len : ∀ (o : List Share) (c : Int) (out : List Tfer), (rtrR c o out).length = out.length + trc c o
  | [], _, _ => rfl
  | [_], _, _ => rfl
  | x :: y :: r, c, out => by rw [rtrR, trc, rtr_len (y :: r), stp_len]; omega
theorem rtr_ok : ∀ (o : List Share) (c : Int) (out : List Tfer), (∀ x ∈ o, okS x) → (o.map (·.o)).Nodup → (-1099511627776 ≤ c - 137438953472 * (o.length : Int) ∧ c + 137438953472 * (o.length : Int) ≤ 1099511627776) → (∀ t ∈ out, okV t) → ∀ t ∈ rtrR c o out, okV t
  | [], _, _, _, _, _, h => h
  | [_], _, _, _, _, _, h => h
  | x :: y :: r, c, out, ho, hd, hc, h => by
    have hx := ho x (by simp)
    have hy := ho y (by simp)
    unfold okS at hx hy
    rw [List.length_cons] at hc
    rw [rtrR]
    rw [List.map_cons] at hd
    obtain ⟨d1, d2⟩ := List.nodup_cons.1 hd
    have hne : x.o ≠ y.o := fun e => d1 (by rw [e]; simp)
    have hl : (0 : Int) ≤ ((y :: r).length : Int) := Int.natCast_nonneg _
    refine rtr_ok (y :: r) _ _ (fun z hz => ho z (by simp [List.mem_cons.1 hz])) d2 ⟨by omega, by omega⟩ fun t ht => ?_
    unfold stpT at ht
    by_cases h1 : 0 < c + x.a
    · rw [if_pos h1] at ht
      rcases bubT_mem.1 ht with ht | rfl
      · exact h t ht
      · exact ⟨hy.1, hx.1, Ne.symm hne, by dsimp only; omega, by dsimp only; omega⟩
    rw [if_neg h1] at ht
    by_cases h2 : c + x.a < 0
    · rw [if_pos h2] at ht
      rcases bubT_mem.1 ht with ht | rfl
      · exact h t ht
      · exact ⟨hx.1, hy.1, hne, by dsimp only; omega, by dsimp only; omega⟩
    · rw [if_neg h2] at ht; exact h t ht
/-- The transfers of the reference. -/
def rnetF (l : List Share) : List Tfer := rtrR 0 (ordO (nzl l) (full (nzl l).length)) []
theorem rnet_spec {l : List Share} (hr : RightP l) : (∀ t ∈ rnetF l, okV t) ∧ (rnetF l).length = leastF l := by
  have h := nzl_nz hr
  have h8 := h.len
  have hle : (amt (nzl l)).length = (nzl l).length := by simp [amt]
  have ho := ordO_spec h (full_lt (nzl l).length)
  have hlen := ho.len
  rw [cardTo_full _ _ (Nat.le_refl _)] at hlen
  have hsum := ho.sum
  rw [show full (nzl l).length = full (amt (nzl l)).length by rw [hle], sumB_full] at hsum
  have hs0 : (amt (nzl l)).sum = 0 := h.sum
  rw [hs0, hle] at hsum
  have hz := ho.zcn
  unfold rnetF
  generalize ordO (nzl l) (full (nzl l).length) = o at *
  refine ⟨rtr_ok o 0 [] (fun x hx => by obtain ⟨i, hi, _⟩ := ho.mem x hx; exact h.ok x (List.mem_of_getElem? hi)) ho.dis ⟨by omega, by omega⟩ (by simp), ?_⟩
  rw [rtr_len]
  unfold leastF
  rw [← hz]
  cases o with
  | nil => simp only [List.length_nil] at hlen ⊢; simp only [trc]; omega
  | cons x r =>
    have ht := trc_zc r x 0 (by rw [hsum]; rfl)
    rw [zc, if_pos hsum]
    rw [List.length_cons] at hlen
    simp only [List.length_nil]
    omega

/-- What the search for the next position knows. -/
def bestP (l : List Share) (S i : Nat) (b : Int) : Prop := (b = -1 ∧ ∀ j, j < i → S.testBit j = false) ∨ ∃ k : Nat, b = (k : Int) ∧ (k < i ∧ S.testBit k = true) ∧ (∀ j, j < i → S.testBit j = true → mosT l (S ^^^ 2 ^ j) ≤ mosT l (S ^^^ 2 ^ k)) ∧ ∀ j, j < k → S.testBit j = true → mosT l (S ^^^ 2 ^ j) < mosT l (S ^^^ 2 ^ k)
theorem best_start (l : List Share) (S : Nat) : bestP l S 0 (-1) := .inl ⟨rfl, fun j hj => by omega⟩
theorem lt_succ {j i : Nat} (h : j < i + 1) : j < i ∨ j = i := by omega
theorem best_off {l : List Share} {S i : Nat} {b : Int} (h : bestP l S i b) (hb : S.testBit i = false) : bestP l S (i + 1) b := by
  rcases h with ⟨h1, h2⟩ | ⟨k, h1, ⟨h2, h3⟩, h4, h5⟩
  · refine .inl ⟨h1, fun j hj => ?_⟩
    rcases lt_succ hj with hj | rfl
    · exact h2 j hj
    · exact hb
  · refine .inr ⟨k, h1, ⟨by omega, h3⟩, fun j hj hbj => ?_, h5⟩
    rcases lt_succ hj with hj | rfl
    · exact h4 j hj hbj
    · rw [hb] at hbj; cases hbj
theorem best_first {l : List Share} {S i : Nat} (h : ∀ j, j < i → S.testBit j = false) (hb : S.testBit i = true) : bestP l S (i + 1) (i : Int) := by
  refine .inr ⟨i, rfl, ⟨by omega, hb⟩, fun j hj hbj => ?_, fun j hj hbj => ?_⟩
  · rcases lt_succ hj with hj | rfl
    · rw [h j hj] at hbj; cases hbj
    · exact Int.le_refl _
  · rw [h j hj] at hbj; cases hbj
theorem best_gt {l : List Share} {S i k : Nat} (h4 : ∀ j, j < i → S.testBit j = true → mosT l (S ^^^ 2 ^ j) ≤ mosT l (S ^^^ 2 ^ k)) (hb : S.testBit i = true) (hg : mosT l (S ^^^ 2 ^ k) < mosT l (S ^^^ 2 ^ i)) : bestP l S (i + 1) (i : Int) := by
  refine .inr ⟨i, rfl, ⟨by omega, hb⟩, fun j hj hbj => ?_, fun j hj hbj => ?_⟩
  · rcases lt_succ hj with hj | rfl
    · have := h4 j hj hbj; omega
    · exact Int.le_refl _
  · have := h4 j hj hbj; omega
theorem best_le {l : List Share} {S i k : Nat} (h2 : k < i) (h3 : S.testBit k = true) (h4 : ∀ j, j < i → S.testBit j = true → mosT l (S ^^^ 2 ^ j) ≤ mosT l (S ^^^ 2 ^ k)) (h5 : ∀ j, j < k → S.testBit j = true → mosT l (S ^^^ 2 ^ j) < mosT l (S ^^^ 2 ^ k)) (hg : ¬ mosT l (S ^^^ 2 ^ k) < mosT l (S ^^^ 2 ^ i)) : bestP l S (i + 1) (k : Int) := by
  refine .inr ⟨k, rfl, ⟨by omega, h3⟩, fun j hj hbj => ?_, h5⟩
  rcases lt_succ hj with hj | rfl
  · exact h4 j hj hbj
  · omega
theorem best_pick {l : List Share} (h : Nz l) {S : Nat} (hS : S < 2 ^ l.length) (h0 : S ≠ 0) {b : Int} (hb : bestP l S l.length b) : ∃ k : Nat, b = (k : Int) ∧ (k < l.length ∧ S.testBit k = true) ∧ pick (amt l) S = k := by
  have hle : (amt l).length = l.length := by simp [amt]
  have h8 := h.len
  obtain ⟨i, hil, hp, hpn⟩ := pick_ex (az := amt l) (by omega) (by rw [hle]; exact hS) h0
  rw [hle] at hil
  have hbi : S.testBit i = true := by unfold pickP at hp; simp at hp; exact hp.1
  have hm : mostB (amt l) (S ^^^ 2 ^ i) = mostB (amt l) S - zB (amt l) S := by unfold pickP at hp; simp at hp; exact hp.2
  rcases hb with ⟨_, h2⟩ | ⟨k, h1, ⟨h2, h3⟩, h4, h5⟩
  · rw [h2 i hil] at hbi; cases hbi
  · refine ⟨k, h1, ⟨h2, h3⟩, pick_of (by omega) ?_ fun j hj => ?_⟩
    · have q1 := h4 i hil hbi
      have q2 := most_le (az := amt l) (by omega) (by rw [hle]; exact hS) h3
      unfold mosT at q1
      unfold pickP
      rw [h3, decide_eq_true (show mostB (amt l) (S ^^^ 2 ^ k) = mostB (amt l) S - zB (amt l) S by omega)]
      rfl
    · unfold pickP
      cases hbj : S.testBit j with
      | false => rfl
      | true =>
        have q1 := h5 j hj hbj
        have q2 := most_le (az := amt l) (by omega) (by rw [hle]; exact hS) h3
        unfold mosT at q1
        rw [decide_eq_false (by omega)]
        rfl
def insertS : GSpec := ⟨List Tfer × Tfer, fun p => [.row 68 3 (p.1.map encT)], fun p => [.osl 0, aT p.2], fun p => p.1.length ≤ 1000, fun _ => .osl 1, fun _ => [.dead], fun p => [.row 68 3 ((insT p.1 p.2).map encT)]⟩

/-! skiarea/skiarearef37.insert -/
def insertIr : IFn := ⟨76, [.tmp 4],
 (.seq (.ops [
 ⟨(some 3), .box, [.tmp 1], none⟩,
 ⟨(some 4), .mov, [.const (.slice none 0 0)], none⟩] false)
 (.seq (.ops [
 ⟨(some 6), .mov, [.tmp 0], none⟩,
 ⟨(some 7), .load 3 true, [.tmp 3], none⟩,
 ⟨(some 8), .buildSl 68 3, [.tmp 7], none⟩,
 ⟨(some 9), .append 68 3 24, [.tmp 6, .tmp 8], none⟩,
 ⟨(some 0), .mov, [.tmp 9], none⟩] false)
 (.seq (.seq (.ops [
 ⟨(some 10), .mov, [.tmp 0], none⟩,
 ⟨(some 11), .len, [.tmp 10], none⟩,
 ⟨(some 12), .bin .sub .i64 false, [.tmp 11, .const (.int .i64 1)], none⟩,
 ⟨(some 5), .mov, [.tmp 12], none⟩] false)
 (.block 0
 (.loop
 (.seq (.seq (.ops [
 ⟨(some 13), .mov, [.tmp 5], none⟩,
 ⟨(some 14), .cmp .gtr, [.tmp 13, .const (.int .i64 0)], none⟩,
 ⟨(some 15), .mov, [.tmp 14], none⟩,
 ⟨(some 16), .mov, [.tmp 0], (some (15, true))⟩,
 ⟨(some 17), .mov, [.tmp 5], (some (15, true))⟩,
 ⟨(some 18), .idx 3, [.tmp 16, .tmp 17], (some (15, true))⟩,
 ⟨(some 19), .faddr 0, [.tmp 18], (some (15, true))⟩,
 ⟨(some 20), .load 1 false, [.tmp 19], (some (15, true))⟩,
 ⟨(some 21), .mov, [.tmp 0], (some (15, true))⟩,
 ⟨(some 22), .mov, [.tmp 5], (some (15, true))⟩,
 ⟨(some 23), .bin .sub .i64 false, [.tmp 22, .const (.int .i64 1)], (some (15, true))⟩,
 ⟨(some 24), .idx 3, [.tmp 21, .tmp 23], (some (15, true))⟩,
 ⟨(some 25), .faddr 0, [.tmp 24], (some (15, true))⟩,
 ⟨(some 26), .load 1 false, [.tmp 25], (some (15, true))⟩,
 ⟨(some 27), .cmp .lss, [.tmp 20, .tmp 26], (some (15, true))⟩,
 ⟨(some 28), .mov, [.tmp 27], (some (15, true))⟩,
 ⟨(some 29), .mov, [.tmp 0], (some (28, false))⟩,
 ⟨(some 30), .mov, [.tmp 5], (some (28, false))⟩,
 ⟨(some 31), .idx 3, [.tmp 29, .tmp 30], (some (28, false))⟩,
 ⟨(some 32), .faddr 0, [.tmp 31], (some (28, false))⟩,
 ⟨(some 33), .load 1 false, [.tmp 32], (some (28, false))⟩,
 ⟨(some 34), .mov, [.tmp 0], (some (28, false))⟩,
 ⟨(some 35), .mov, [.tmp 5], (some (28, false))⟩,
 ⟨(some 36), .bin .sub .i64 false, [.tmp 35, .const (.int .i64 1)], (some (28, false))⟩,
 ⟨(some 37), .idx 3, [.tmp 34, .tmp 36], (some (28, false))⟩,
 ⟨(some 38), .faddr 0, [.tmp 37], (some (28, false))⟩,
 ⟨(some 39), .load 1 false, [.tmp 38], (some (28, false))⟩,
 ⟨(some 40), .cmp .eql, [.tmp 33, .tmp 39], (some (28, false))⟩,
 ⟨(some 41), .mov, [.tmp 40], (some (28, false))⟩,
 ⟨(some 42), .mov, [.tmp 0], (some (41, true))⟩,
 ⟨(some 43), .mov, [.tmp 5], (some (41, true))⟩,
 ⟨(some 44), .idx 3, [.tmp 42, .tmp 43], (some (41, true))⟩,
 ⟨(some 45), .faddr 1, [.tmp 44], (some (41, true))⟩,
 ⟨(some 46), .load 1 false, [.tmp 45], (some (41, true))⟩,
 ⟨(some 47), .mov, [.tmp 0], (some (41, true))⟩,
 ⟨(some 48), .mov, [.tmp 5], (some (41, true))⟩,
 ⟨(some 49), .bin .sub .i64 false, [.tmp 48, .const (.int .i64 1)], (some (41, true))⟩,
 ⟨(some 50), .idx 3, [.tmp 47, .tmp 49], (some (41, true))⟩,
 ⟨(some 51), .faddr 1, [.tmp 50], (some (41, true))⟩,
 ⟨(some 52), .load 1 false, [.tmp 51], (some (41, true))⟩,
 ⟨(some 53), .cmp .lss, [.tmp 46, .tmp 52], (some (41, true))⟩,
 ⟨(some 54), .pick, [.tmp 41, .tmp 53, .const (.bool false)], (some (28, false))⟩,
 ⟨(some 55), .pick, [.tmp 28, .const (.bool true), .tmp 54], (some (15, true))⟩,
 ⟨(some 56), .pick, [.tmp 15, .tmp 55, .const (.bool false)], none⟩] true)
 (.cond (.tmp 56)
 .skip
 (.exit 0)))
 (.seq (.block 1
 (.ops [
 ⟨(some 59), .mov, [.tmp 0], none⟩,
 ⟨(some 60), .mov, [.tmp 5], none⟩,
 ⟨(some 61), .mov, [.tmp 0], none⟩,
 ⟨(some 62), .mov, [.tmp 5], none⟩,
 ⟨(some 63), .bin .sub .i64 false, [.tmp 62, .const (.int .i64 1)], none⟩,
 ⟨(some 64), .mov, [.tmp 0], none⟩,
 ⟨(some 65), .mov, [.tmp 5], none⟩,
 ⟨(some 66), .bin .sub .i64 false, [.tmp 65, .const (.int .i64 1)], none⟩,
 ⟨(some 67), .idx 3, [.tmp 64, .tmp 66], none⟩,
 ⟨(some 68), .load 3 true, [.tmp 67], none⟩,
 ⟨(some 69), .mov, [.tmp 0], none⟩,
 ⟨(some 70), .mov, [.tmp 5], none⟩,
 ⟨(some 71), .idx 3, [.tmp 69, .tmp 70], none⟩,
 ⟨(some 72), .load 3 true, [.tmp 71], none⟩,
 ⟨(some 73), .idx 3, [.tmp 59, .tmp 60], none⟩,
 ⟨none, .store 3, [.tmp 73, .tmp 68], none⟩,
 ⟨(some 74), .idx 3, [.tmp 61, .tmp 63], none⟩,
 ⟨none, .store 3, [.tmp 74, .tmp 72], none⟩] true))
 (.ops [
 ⟨(some 57), .mov, [.tmp 5], none⟩,
 ⟨(some 58), .bin .sub .i64 false, [.tmp 57, .const (.int .i64 1)], none⟩,
 ⟨(some 5), .mov, [.tmp 58], none⟩] false))))))
 (.seq (.ops [
 ⟨(some 75), .mov, [.tmp 0], none⟩,
 ⟨(some 4), .mov, [.tmp 75], none⟩] false)
 .ret))))⟩
theorem insertLow : lowF Tryz.prog {} Tryz.f98 = some insertIr := by kernel_rfl
set_option maxHeartbeats 1000000 in
theorem insertV : fnG Tryz.prog insertIr insertS := by
  intro ⟨(l : List Tfer), (x : Tfer)⟩ hx
  replace hx : l.length ≤ 1000 := hx
  have hl : (l.map encT).length = l.length := List.length_map ..
  have hl1 : (l.map encT ++ [[CV.int .i64 x.f, .int .i64 x.t, .int .i64 x.a]]).length = l.length + 1 := by rw [List.length_append, hl]; rfl
  show vc _ _ _ _ ⟨argEnv 0 [.osl 0, aT x], idxFrom 0 [.row 68 3 (l.map encT)], 1⟩
  repeat' ((conv => whnf); first | (refine ⟨fun h => ?_, fun h => ?_⟩ <;> try (exfalso; first | omega | exact absurd h (by decide) | exact h rfl | exact absurd (show true = false from h) (by decide) | exact absurd (show false = true from h) (by decide))) | (refine ⟨⟨by first | omega | (simp only [List.length_nil]; omega) | (simp only [List.length_cons, List.length_nil]; omega), by first | omega | (simp only [List.length_nil]; omega) | (simp only [List.length_cons, List.length_nil]; omega)⟩, ?_⟩) | refine ⟨⟨by omega, by omega⟩, ?_⟩ | fail | fail)
  refine ⟨Int × (List (List CV)), fun xq => ⟨[(0, .osl 1), (5, I xq.1)], [(1, .row 68 3 xq.2)], 2⟩, fun xq => ∃ i : Nat, (xq.1 = (i : Int) ∧ i ≤ l.length) ∧ xq.2 = (bubT l x i).map encT ∧ ∀ y ∈ l.drop i, keyLt x y, fun xq => xq.1.toNat, ⟨(_, _), ?_, [(1, 2)], ⟨⟨rfl, rfl⟩, ⟨⟨rfl, rfl⟩, trivial⟩⟩, ⟨⟨rfl, rfl, rfl⟩, trivial⟩, rfl, rfl, rfl⟩, ?_⟩
  · (try dsimp only); exact ⟨l.length, ⟨by omega, Nat.le_refl _⟩, by rw [bubT_end, List.map_append]; rfl, by rw [List.drop_length]; simp⟩
  rintro ⟨j, es⟩ hk
  obtain ⟨i, ⟨rfl, hi⟩, rfl, hd⟩ : ∃ i : Nat, (j = (i : Int) ∧ i ≤ l.length) ∧ es = (bubT l x i).map encT ∧ ∀ y ∈ l.drop i, keyLt x y := hk
  (try dsimp only)
  have hbl : ((bubT l x i).map encT).length = l.length + 1 := by rw [List.length_map, bubT_len]
  have hki : ((bubT l x i).map encT)[((i : Nat) : Int).toNat]? = some (encT x) := by rw [Int.toNat_natCast, List.getElem?_map, bubT_at hi]; rfl
  by_cases hi0 : i = 0
  · have hpl : placeT l x = i := place_of hi hd (fun m y e => by omega)
    repeat' ((conv => whnf); first | (refine ⟨fun h => ?_, fun h => ?_⟩ <;> try (exfalso; first | omega | exact absurd h (by decide) | exact h rfl | exact absurd (show true = false from h) (by decide) | exact absurd (show false = true from h) (by decide))) | fail | fail)
    all_goals ((conv => whnf); refine ⟨[1], rfl, rfl, ⟨⟨?_, rfl⟩, trivial⟩, rfl, rfl⟩; show some (Ob.row 68 3 ((bubT l x _).map encT)) = some (Ob.row 68 3 ((insT l x).map encT)); unfold insT; rw [hpl])
  · obtain ⟨m, rfl⟩ : ∃ m, i = m + 1 := ⟨i - 1, by omega⟩
    obtain ⟨y, hy⟩ := getElem_some (show m < l.length by omega)
    have hm1 : ((m + 1 : Nat) : Int) - 1 = (m : Nat) := by omega
    have hmy : ((bubT l x (m + 1)).map encT)[((m : Nat) : Int).toNat]? = some (encT y) := by rw [Int.toNat_natCast, List.getElem?_map, bubT_pre (by omega) hi, hy]; rfl
    have hmy2 : (((bubT l x (m + 1)).map encT).set ((m + 1 : Nat) : Int).toNat (encT y))[((m : Nat) : Int).toNat]? = some (encT y) := by rw [Int.toNat_natCast, Int.toNat_natCast, List.getElem?_set_ne (by omega), ← Int.toNat_natCast m]; exact hmy
    have hbl2 : (((bubT l x (m + 1)).map encT).set ((m + 1 : Nat) : Int).toNat (encT y)).length = l.length + 1 := by rw [List.length_set]; exact hbl
    have hkd : keyLt x y = (x.f < y.f ∨ x.f = y.f ∧ x.t < y.t) := rfl
    by_cases hlt : keyLt x y
    · have hsw : (((bubT l x (m + 1)).map encT).set ((m + 1 : Nat) : Int).toNat (encT y)).set ((m : Nat) : Int).toNat (encT x) = (bubT l x m).map encT := by rw [Int.toNat_natCast, Int.toNat_natCast, ← List.map_set, ← List.map_set, bubT_swap hy]
      have hd' : ∀ z ∈ l.drop m, keyLt x z := by
        intro z hz
        rw [drop_of hy] at hz
        rcases List.mem_cons.1 hz with rfl | hz
        · exact hlt
        · exact hd z hz
      rw [hkd] at hlt
      repeat' ((conv => whnf); first | (refine ⟨fun h => ?_, fun h => ?_⟩ <;> try (exfalso; first | omega | exact absurd h (by decide) | exact h rfl | exact absurd (show true = false from h) (by decide) | exact absurd (show false = true from h) (by decide))) | refine get_at hki ?_ | refine get_at hmy ?_ | refine get_at hmy2 ?_ | (refine ⟨⟨by omega, by omega⟩, ?_⟩; rw [hm1]) | (refine ⟨⟨by omega, by first | omega | (rw [List.length_set]; omega)⟩, ?_⟩) | (refine ⟨(((m : Nat) : Int), _), ⟨?_, by (try dsimp only); omega⟩, [], ⟨⟨rfl, rfl⟩, ⟨⟨rfl, rfl⟩, trivial⟩⟩, ⟨⟨rfl, rfl, rfl⟩, trivial⟩, rfl, rfl, rfl⟩; (try dsimp only); exact ⟨m, ⟨rfl, by omega⟩, hsw, hd'⟩) | refine ⟨⟨by omega, by omega⟩, ?_⟩ | fail)
    · have hpl : placeT l x = m + 1 := place_of hi hd (fun m' y' e he => by
        obtain rfl : m = m' := by omega
        rw [hy] at he; cases he; exact hlt)
      rw [hkd] at hlt
      repeat' ((conv => whnf); first | (refine ⟨fun h => ?_, fun h => ?_⟩ <;> try (exfalso; first | omega | exact absurd h (by decide) | exact h rfl | exact absurd (show true = false from h) (by decide) | exact absurd (show false = true from h) (by decide))) | refine get_at hki ?_ | refine get_at hmy ?_ | (refine ⟨⟨by omega, by omega⟩, ?_⟩; rw [hm1]) | (refine ⟨⟨by omega, by first | omega | (rw [List.length_set]; omega)⟩, ?_⟩) | refine ⟨⟨by omega, by omega⟩, ?_⟩ | fail | fail)
      all_goals ((conv => whnf); refine ⟨[1], rfl, rfl, ⟨⟨?_, rfl⟩, trivial⟩, rfl, rfl⟩; show some (Ob.row 68 3 ((bubT l x _).map encT)) = some (Ob.row 68 3 ((insT l x).map encT)); unfold insT; rw [hpl])
theorem insert_g : HoldsG Tryz.prog 98 insertS := holdsG_of mix Tryz.func98 insertLow (fun _ => rfl) insertV

theorem led_snoc {l : List Pst} {p : Pst} (h : ledR l = 0) (hl : l.length + 1 ≤ 2000) (hp : ledP p) (hne : p.fr ≠ p.to) (hn : ∀ y ∈ l, y.ref ≠ p.ref) : ledR (l ++ [p]) = 0 := by
  have hlen : (l ++ [p]).length = l.length + 1 := by rw [List.length_append]; rfl
  unfold ledR at h ⊢
  rw [if_neg (by omega)] at h
  rw [if_neg (by omega), hlen]
  refine fe_zero fun k hk => ?_
  rcases Nat.lt_or_ge k l.length with h1 | h1
  · have h0 := fe_all h k h1
    obtain ⟨x, hx⟩ := getElem_some h1
    have hx' : (l ++ [p])[k]? = some x := by rw [List.getElem?_append_left h1]; exact hx
    unfold ledE at h0 ⊢
    rw [at_of hx] at h0
    rw [at_of hx', List.take_append_of_le_length (by omega)]
    exact h0
  · obtain rfl : k = l.length := by omega
    have hx' : (l ++ [p])[l.length]? = some p := by simp
    unfold ledE
    rw [at_of hx', if_neg (Decidable.not_not.2 hp), if_neg hne, List.take_left, if_neg]
    rw [Bool.not_eq_true, List.any_eq_false]
    intro y hy
    unfold refB
    rw [decide_eq_true_iff]
    exact hn y hy
theorem postAll_ok {n : Int} (h1 : 1 ≤ n) (h2 : n ≤ 1000) : ∀ (T : List Tfer) (i : Nat) (po : List Pst), ledR po = 0 → po.length + T.length ≤ 2000 → i + T.length ≤ 100 → (∀ t ∈ T, okV t) → (∀ y ∈ po, ∀ j : Nat, i ≤ j → j < i + T.length → y.ref ≠ n * 100 + j + 1) → (postAll n i T po).2 = 0
  | [], _, _, _, _, _, _, _ => rfl
  | t :: r, i, po, hl, hn, hi, ht, hr => by
    rw [List.length_cons] at hn hi
    have hnot : refP n i t ∉ po := fun hm => hr _ hm i (Nat.le_refl i) (by rw [List.length_cons]; omega) rfl
    have hadd : addF po (refP n i t) = po ++ [refP n i t] := if_neg hnot
    obtain ⟨k1, k2, k3, k4⟩ := ht t (List.mem_cons_self ..)
    unfold okO at k1 k2
    have hled : ledR (po ++ [refP n i t]) = 0 := led_snoc hl (by omega) ⟨⟨by show 1 ≤ n * 100 + i + 1; omega, by show n * 100 + i + 1 ≤ _; omega⟩, ⟨by show 0 ≤ t.f; omega, by show t.f ≤ _; omega⟩, ⟨by show 0 ≤ t.t; omega, by show t.t ≤ _; omega⟩, k4⟩ k3 fun y hy => hr y hy i (Nat.le_refl i) (by rw [List.length_cons]; omega)
    have hp : postF po (refP n i t) = (po ++ [refP n i t], 0) := by
      unfold postF
      rw [if_neg (Decidable.not_not.2 hl), hadd, if_neg (Decidable.not_not.2 hled)]
    rw [postAll_go (by rw [hp]), hp]
    refine postAll_ok h1 h2 r (i + 1) _ hled (by rw [List.length_append]; simp only [List.length_cons, List.length_nil]; omega) (by omega) (fun t' ht' => ht t' (List.mem_cons_of_mem _ ht')) fun y hy j hj hj2 => ?_
    rcases List.mem_append.1 hy with hy | hy
    · exact hr y hy j (by omega) (by rw [List.length_cons]; omega)
    · rw [List.mem_singleton.1 hy]
      show n * 100 + i + 1 ≠ n * 100 + j + 1
      omega
/-- What the reference asks ahead of the postings. -/
def askE (b : Bk) (n : Int) (due rec : List Share) : Int := if n < 1 ∨ (b.ps.length : Int) < n then 8 else if n ≠ firstN b.ps then 10 else if accB due = false ∨ accB rec = false ∨ rightF (posL due rec) ≠ 0 then 1 else 0
theorem posL_rf {due rec : List Share} (h1 : accB due = true) (h2 : accB rec = true) : rightF (posL due rec) = 0 ↔ sumA due = sumA rec := by
  refine ⟨fun h => ?_, fun h => right_iff.2 (posL_right h1 h2 h)⟩
  have := (right_iff.1 h).sum
  rw [posL_sum h1 h2] at this
  omega
theorem ask_no {b : Bk} (h : RB b) {n : Int} {due rec : List Share} (hE : askE b n due rec ≠ 0) : clsE b n due rec = askE b n due rec := by
  unfold askE clsE at *
  rw [first_eq h.pers]
  by_cases h1 : n < 1 ∨ (b.ps.length : Int) < n
  · rw [if_pos h1, if_pos h1]
  rw [if_neg h1] at hE ⊢
  rw [if_neg h1]
  by_cases h2 : n ≠ firstN b.ps
  · rw [if_pos h2, if_pos h2]
  rw [if_neg h2] at hE ⊢
  rw [if_neg h2]
  by_cases h3 : accB due = false ∨ accB rec = false ∨ rightF (posL due rec) ≠ 0
  · rw [if_pos h3, if_pos]
    rcases h3 with h3 | h3 | h3
    · exact .inl h3
    · exact .inr (.inl h3)
    · cases a1 : accB due with
      | false => exact .inl rfl
      | true =>
        cases a2 : accB rec with
        | false => exact .inr (.inl rfl)
        | true => exact .inr (.inr fun e => h3 ((posL_rf a1 a2).2 e))
  · rw [if_neg h3] at hE; exact absurd rfl hE
structure AskP (b : Bk) (n : Int) (due rec : List Share) : Prop where
  lo : 1 ≤ n
  hi : n ≤ (b.ps.length : Int)
  fst : firstN b.ps = n
  a1 : accB due = true
  a2 : accB rec = true
  sum : sumA due = sumA rec
theorem ask_yes {b : Bk} {n : Int} {due rec : List Share} (hE : askE b n due rec = 0) : AskP b n due rec := by
  unfold askE at hE
  by_cases h1 : n < 1 ∨ (b.ps.length : Int) < n
  · rw [if_pos h1] at hE; cases hE
  rw [if_neg h1] at hE
  by_cases h2 : n ≠ firstN b.ps
  · rw [if_pos h2] at hE; cases hE
  rw [if_neg h2] at hE
  by_cases h3 : accB due = false ∨ accB rec = false ∨ rightF (posL due rec) ≠ 0
  · rw [if_pos h3] at hE; cases hE
  have a1 : accB due = true := by cases h : accB due with
    | true => rfl
    | false => exact absurd (.inl h) h3
  have a2 : accB rec = true := by cases h : accB rec with
    | true => rfl
    | false => exact absurd (.inr (.inl h)) h3
  refine ⟨by omega, by omega, by omega, a1, a2, (posL_rf a1 a2).1 (Decidable.not_not.1 fun h => h3 (.inr (.inr h)))⟩
theorem ask_cls {b : Bk} (h : RB b) {n : Int} {due rec : List Share} (hp : AskP b n due rec) (hf : b.po.length ≤ 100) (ht : takenB b.po n = false) {T : List Tfer} (hT : T.length ≤ 8) (hv : ∀ t ∈ T, okV t) : postAll n 0 T b.po = (b.po ++ refsF n 0 T, 0) := by
  have h64 := h.p64
  have h1 := hp.lo
  have h2 := hp.hi
  have e2 := postAll_ok (n := n) (by omega) (by omega) T 0 b.po h.led (by omega) (by omega) hv fun y hy j _ hj => taken_no ht h1 (by omega) y hy j (by omega)
  have e1 := postAll_refs T 0 b.po (fun y hy j _ hj => taken_no ht h1 (by omega) y hy j (by omega)) e2
  rw [← e1, ← e2]
theorem okT_V {t : Tfer} (h : okT t) : okV t := by
  obtain ⟨k1, k2, k3, k4, k5⟩ := h
  exact ⟨k1, k2, k3, k4, by omega⟩
theorem ask_go {b : Bk} (h : RB b) {n : Int} {due rec : List Share} (hp : AskP b n due rec) (hf : b.po.length ≤ 100) (ht : takenB b.po n = false) : clsE b n due rec = 0 := by
  have hR := posL_right hp.a1 hp.a2 hp.sum
  have hN := netF_spec hR
  have h8 := least_8 hR
  have e := ask_cls h hp hf ht (T := cloT due rec) h8 (fun t ht => okT_V (hN.ok t ht))
  have h1 := hp.lo
  have h2 := hp.hi
  have h3 := hp.fst
  unfold clsE
  rw [first_eq h.pers, if_neg (by omega), if_neg (by omega), if_neg (fun h => by rcases h with h | h | h; (rw [hp.a1] at h; cases h); (rw [hp.a2] at h; cases h); exact h hp.sum), e]
theorem sub_shl {S i q : Nat} (hS : S < 256) (hi : i < 8) (hb : S.testBit i = true) (hq : S ^^^ 2 ^ i = q) : (S : Int) - IntKind.wrap .i64 (1 * 2 ^ Nat.min ((i : Int).toNat) (IntKind.bits .i64)) = (q : Int) := by
  rw [shl_eq (by omega)]
  obtain ⟨c1, c2⟩ := clr_eq hS hi hb
  omega
theorem sumA_bnd {l : List Share} (h : ∀ x ∈ l, okS x) : ∀ k : Nat, k ≤ l.length → -(137438953472 * (k : Int)) ≤ sumA (l.take k) ∧ sumA (l.take k) ≤ 137438953472 * (k : Int)
  | 0, _ => by simp [sumA, amt]
  | k + 1, hk => by
    obtain ⟨x, hx⟩ := getElem_some (show k < l.length by omega)
    have h1 := sumA_bnd h k (by omega)
    have h2 := (h x (List.mem_of_getElem? hx)).2
    rw [sumA_snoc hx]
    omega
theorem rtr_step {c : Int} {o : List Share} {k : Nat} {x y : Share} {out : List Tfer} (hx : o[k]? = some x) (hy : o[k + 1]? = some y) : rtrR c (o.drop k) out = rtrR (c + x.a) (o.drop (k + 1)) (stpT (c + x.a) x y out) := by
  rw [drop_of hx, drop_of hy, rtrR]
theorem rtr_end {c : Int} {o : List Share} {k : Nat} {out : List Tfer} (h : o.length ≤ k + 1) : rtrR c (o.drop k) out = out := by
  have hl : (o.drop k).length ≤ 1 := by rw [List.length_drop]; omega
  generalize o.drop k = p at *
  match p, hl with
  | [], _ => rfl
  | [_], _ => rfl
  | _ :: _ :: _, h => simp at h

/-! skiarea/skiarearef37.Net -/
def rnetIr : IFn := ⟨117, [.tmp 2],
 (.seq (.ops [
 ⟨(some 2), .mov, [.const (.slice none 0 0)], none⟩] false)
 (.seq (.ops [
 ⟨(some 12), .mov, [.tmp 0], none⟩,
 ⟨(some 13), .call 96, [.tmp 12], none⟩,
 ⟨(some 3), .mov, [.tmp 13], none⟩] false)
 (.seq (.ops [
 ⟨(some 14), .mov, [.tmp 3], none⟩,
 ⟨(some 15), .call 97, [.tmp 14], none⟩,
 ⟨(some 4), .mov, [.tmp 15], none⟩] false)
 (.seq (.ops [
 ⟨(some 5), .nilOwn 58 2, [], none⟩] false)
 (.seq (.seq (.ops [
 ⟨(some 16), .mov, [.tmp 4], none⟩,
 ⟨(some 17), .len, [.tmp 16], none⟩,
 ⟨(some 18), .bin .sub .i64 false, [.tmp 17, .const (.int .i64 1)], none⟩,
 ⟨(some 6), .mov, [.tmp 18], none⟩] false)
 (.block 0
 (.loop
 (.seq (.seq (.ops [
 ⟨(some 19), .mov, [.tmp 6], none⟩,
 ⟨(some 20), .cmp .gtr, [.tmp 19, .const (.int .i64 0)], none⟩] false)
 (.cond (.tmp 20)
 .skip
 (.exit 0)))
 (.block 1
 (.seq (.ops [
 ⟨(some 7), .mov, [.const (.int .i64 (-1))], none⟩] false)
 (.seq (.seq (.ops [
 ⟨(some 8), .mov, [.const (.int .i64 0)], none⟩] false)
 (.block 2
 (.loop
 (.seq (.seq (.ops [
 ⟨(some 21), .mov, [.tmp 8], none⟩,
 ⟨(some 22), .mov, [.tmp 3], none⟩,
 ⟨(some 23), .len, [.tmp 22], none⟩,
 ⟨(some 24), .cmp .lss, [.tmp 21, .tmp 23], none⟩] false)
 (.cond (.tmp 24)
 .skip
 (.exit 2)))
 (.seq (.block 3
 (.seq (.ops [
 ⟨(some 27), .mov, [.tmp 6], none⟩,
 ⟨(some 28), .mov, [.tmp 8], none⟩,
 ⟨(some 29), .bin .shr .i64 false, [.tmp 27, .tmp 28], none⟩,
 ⟨(some 30), .bin .and .i64 false, [.tmp 29, .const (.int .i64 1)], none⟩,
 ⟨(some 31), .cmp .eql, [.tmp 30, .const (.int .i64 1)], none⟩,
 ⟨(some 32), .mov, [.tmp 31], none⟩,
 ⟨(some 33), .mov, [.tmp 7], (some (32, true))⟩,
 ⟨(some 34), .cmp .lss, [.tmp 33, .const (.int .i64 0)], (some (32, true))⟩,
 ⟨(some 35), .mov, [.tmp 34], (some (32, true))⟩,
 ⟨(some 36), .mov, [.tmp 4], (some (35, false))⟩,
 ⟨(some 37), .mov, [.tmp 6], (some (35, false))⟩,
 ⟨(some 38), .mov, [.tmp 8], (some (35, false))⟩,
 ⟨(some 39), .bin .shl .i64 false, [.const (.int .i64 1), .tmp 38], (some (35, false))⟩,
 ⟨(some 40), .bin .sub .i64 false, [.tmp 37, .tmp 39], (some (35, false))⟩,
 ⟨(some 41), .idx 1, [.tmp 36, .tmp 40], (some (35, false))⟩,
 ⟨(some 42), .load 1 false, [.tmp 41], (some (35, false))⟩,
 ⟨(some 43), .mov, [.tmp 4], (some (35, false))⟩,
 ⟨(some 44), .mov, [.tmp 6], (some (35, false))⟩,
 ⟨(some 45), .mov, [.tmp 7], (some (35, false))⟩,
 ⟨(some 46), .bin .shl .i64 false, [.const (.int .i64 1), .tmp 45], (some (35, false))⟩,
 ⟨(some 47), .bin .sub .i64 false, [.tmp 44, .tmp 46], (some (35, false))⟩,
 ⟨(some 48), .idx 1, [.tmp 43, .tmp 47], (some (35, false))⟩,
 ⟨(some 49), .load 1 false, [.tmp 48], (some (35, false))⟩,
 ⟨(some 50), .cmp .gtr, [.tmp 42, .tmp 49], (some (35, false))⟩,
 ⟨(some 51), .pick, [.tmp 35, .const (.bool true), .tmp 50], (some (32, true))⟩,
 ⟨(some 52), .pick, [.tmp 32, .tmp 51, .const (.bool false)], none⟩] true)
 (.cond (.tmp 52)
 (.ops [
 ⟨(some 53), .mov, [.tmp 8], none⟩,
 ⟨(some 7), .mov, [.tmp 53], none⟩] false)
 .skip)))
 (.ops [
 ⟨(some 25), .mov, [.tmp 8], none⟩,
 ⟨(some 26), .bin .add .i64 false, [.tmp 25, .const (.int .i64 1)], none⟩,
 ⟨(some 8), .mov, [.tmp 26], none⟩] false))))))
 (.seq (.ops [
 ⟨(some 54), .mov, [.tmp 5], none⟩,
 ⟨(some 55), .mov, [.tmp 3], none⟩,
 ⟨(some 56), .mov, [.tmp 7], none⟩,
 ⟨(some 57), .idx 2, [.tmp 55, .tmp 56], none⟩,
 ⟨(some 58), .load 2 true, [.tmp 57], none⟩,
 ⟨(some 59), .buildSl 58 2, [.tmp 58], none⟩,
 ⟨(some 60), .append 58 2 16, [.tmp 54, .tmp 59], none⟩,
 ⟨(some 5), .mov, [.tmp 60], none⟩] false)
 (.ops [
 ⟨(some 61), .mov, [.tmp 6], none⟩,
 ⟨(some 62), .mov, [.tmp 7], none⟩,
 ⟨(some 63), .bin .shl .i64 false, [.const (.int .i64 1), .tmp 62], none⟩,
 ⟨(some 64), .bin .sub .i64 false, [.tmp 61, .tmp 63], none⟩,
 ⟨(some 6), .mov, [.tmp 64], none⟩] false)))))))))
 (.seq (.ops [
 ⟨(some 9), .nilOwn 68 3, [], none⟩] false)
 (.seq (.ops [
 ⟨(some 10), .mov, [.const (.int .i64 0)], none⟩] false)
 (.seq (.seq (.ops [
 ⟨(some 11), .mov, [.const (.int .i64 0)], none⟩] false)
 (.block 4
 (.loop
 (.seq (.seq (.ops [
 ⟨(some 65), .mov, [.tmp 11], none⟩,
 ⟨(some 66), .bin .add .i64 false, [.tmp 65, .const (.int .i64 1)], none⟩,
 ⟨(some 67), .mov, [.tmp 5], none⟩,
 ⟨(some 68), .len, [.tmp 67], none⟩,
 ⟨(some 69), .cmp .lss, [.tmp 66, .tmp 68], none⟩] false)
 (.cond (.tmp 69)
 .skip
 (.exit 4)))
 (.seq (.block 5
 (.seq (.ops [
 ⟨(some 72), .mov, [.tmp 10], none⟩,
 ⟨(some 73), .mov, [.tmp 5], none⟩,
 ⟨(some 74), .mov, [.tmp 11], none⟩,
 ⟨(some 75), .idx 2, [.tmp 73, .tmp 74], none⟩,
 ⟨(some 76), .faddr 1, [.tmp 75], none⟩,
 ⟨(some 77), .load 1 false, [.tmp 76], none⟩,
 ⟨(some 78), .bin .add .i64 false, [.tmp 72, .tmp 77], none⟩,
 ⟨(some 10), .mov, [.tmp 78], none⟩] false)
 (.block 6
 (.seq (.ops [
 ⟨(some 80), .mov, [.tmp 10], none⟩,
 ⟨(some 81), .cmp .gtr, [.tmp 80, .const (.int .i64 0)], none⟩,
 ⟨(some 79), .mov, [.tmp 81], none⟩] false)
 (.cond (.tmp 79)
 (.ops [
 ⟨(some 82), .mov, [.tmp 9], none⟩,
 ⟨(some 83), .mov, [.tmp 5], none⟩,
 ⟨(some 84), .mov, [.tmp 11], none⟩,
 ⟨(some 85), .bin .add .i64 false, [.tmp 84, .const (.int .i64 1)], none⟩,
 ⟨(some 86), .idx 2, [.tmp 83, .tmp 85], none⟩,
 ⟨(some 87), .faddr 0, [.tmp 86], none⟩,
 ⟨(some 88), .load 1 false, [.tmp 87], none⟩,
 ⟨(some 89), .mov, [.tmp 5], none⟩,
 ⟨(some 90), .mov, [.tmp 11], none⟩,
 ⟨(some 91), .idx 2, [.tmp 89, .tmp 90], none⟩,
 ⟨(some 92), .faddr 0, [.tmp 91], none⟩,
 ⟨(some 93), .load 1 false, [.tmp 92], none⟩,
 ⟨(some 94), .mov, [.tmp 10], none⟩,
 ⟨(some 95), .build [.int .i64 0, .int .i64 0, .int .i64 0] [(0, 1), (1, 1), (2, 1)], [.tmp 88, .tmp 93, .tmp 94], none⟩,
 ⟨(some 96), .callg 98, [.tmp 82, .tmp 95], none⟩,
 ⟨(some 9), .mov, [.tmp 96], none⟩] true)
 (.seq (.ops [
 ⟨(some 98), .mov, [.tmp 10], none⟩,
 ⟨(some 99), .cmp .lss, [.tmp 98, .const (.int .i64 0)], none⟩,
 ⟨(some 97), .mov, [.tmp 99], none⟩] false)
 (.cond (.tmp 97)
 (.ops [
 ⟨(some 100), .mov, [.tmp 9], none⟩,
 ⟨(some 101), .mov, [.tmp 5], none⟩,
 ⟨(some 102), .mov, [.tmp 11], none⟩,
 ⟨(some 103), .idx 2, [.tmp 101, .tmp 102], none⟩,
 ⟨(some 104), .faddr 0, [.tmp 103], none⟩,
 ⟨(some 105), .load 1 false, [.tmp 104], none⟩,
 ⟨(some 106), .mov, [.tmp 5], none⟩,
 ⟨(some 107), .mov, [.tmp 11], none⟩,
 ⟨(some 108), .bin .add .i64 false, [.tmp 107, .const (.int .i64 1)], none⟩,
 ⟨(some 109), .idx 2, [.tmp 106, .tmp 108], none⟩,
 ⟨(some 110), .faddr 0, [.tmp 109], none⟩,
 ⟨(some 111), .load 1 false, [.tmp 110], none⟩,
 ⟨(some 112), .mov, [.tmp 10], none⟩,
 ⟨(some 113), .neg .i64, [.tmp 112], none⟩,
 ⟨(some 114), .build [.int .i64 0, .int .i64 0, .int .i64 0] [(0, 1), (1, 1), (2, 1)], [.tmp 105, .tmp 111, .tmp 113], none⟩,
 ⟨(some 115), .callg 98, [.tmp 100, .tmp 114], none⟩,
 ⟨(some 9), .mov, [.tmp 115], none⟩] true)
 .skip)))))))
 (.ops [
 ⟨(some 70), .mov, [.tmp 11], none⟩,
 ⟨(some 71), .bin .add .i64 false, [.tmp 70, .const (.int .i64 1)], none⟩,
 ⟨(some 11), .mov, [.tmp 71], none⟩] false))))))
 (.seq (.ops [
 ⟨(some 116), .mov, [.tmp 9], none⟩,
 ⟨(some 2), .mov, [.tmp 116], none⟩] false)
 .ret)))))))))⟩
theorem rnetLow : lowF Tryz.prog { owns := [(5, 58), (9, 68)], gvs := [96, 115] } Tryz.f73 = some rnetIr := by kernel_rfl
def rnetS : Spec := spec (List Share) (fun l => [L 2 (l.map encS)]) RightP (fun l => L 3 ((rnetF l).map encT))
set_option maxHeartbeats 2000000 in
theorem rnetV : fnV Tryz.prog rnetIr rnetS := by
  intro (l : List Share) hr
  have hn := nzl_nz hr
  have hf := nzl_few hr
  have hlen := hr.len
  have h8 := hn.len
  have h256 := pow_le8 h8
  have hR : rnetF l = rtrR 0 (ordO (nzl l) (full (nzl l).length)) [] := rfl
  show vc _ _ _ _ ⟨argEnv 0 [L 2 (l.map encS)], [], 0⟩
  conv => whnf
  (refine ⟨_, opn_h, l, (by show l.length ≤ 1000; omega), leVs_of_eq rfl, .inl rfl, rfl, ?_⟩; show norm (L 2 ((nzl l).map encS)) _)
  conv => whnf
  (refine ⟨_, rgroups_h, nzl l, hf, leVs_of_eq rfl, .inl rfl, rfl, ?_⟩; show norm (L 1 (tabN (2 ^ (nzl l).length) (mosT (nzl l)))) _)
  generalize hm : nzl l = m at *
  have hl : (m.map encS).length = m.length := List.length_map ..
  have hp : 0 < 2 ^ m.length := Nat.two_pow_pos _
  have hfull : full m.length + 1 = 2 ^ m.length := by unfold full; omega
  have hspec := ordO_spec hn (full_lt m.length)
  have holen := hspec.len
  rw [cardTo_full _ _ (Nat.le_refl _)] at holen
  generalize hN : 2 ^ m.length = N at *
  have htl2 : (tabN N (mosT m)).length = N := tabN_len _ _
  repeat' ((conv => whnf); first | refine ⟨⟨by omega, by omega⟩, ?_⟩ | fail)
  rw [show ((tabN N (mosT m)).length : Int) - 1 = (full m.length : Nat) by omega]
  obtain ⟨O, hO⟩ : ∃ O, ordO m (full m.length) = O := ⟨_, rfl⟩
  rw [hO] at hspec holen hR
  conv => whnf
  refine ⟨Nat × (List (List CV)), fun xq => ⟨[(3, L 2 (m.map encS)), (4, L 1 (tabN N (mosT m))), (5, .osl 0), (6, I xq.1)], [(0, .row 58 2 xq.2)], 1⟩, fun xq => ∃ o : List Share, xq.2 = o.map encS ∧ o ++ ordO m xq.1 = O ∧ xq.1 < N, fun xq => xq.1, ⟨(full m.length, _), ?_, [], ⟨⟨rfl, rfl⟩, ⟨⟨rfl, rfl⟩, ⟨⟨rfl, rfl⟩, ⟨⟨rfl, rfl⟩, trivial⟩⟩⟩⟩, ⟨⟨rfl, rfl, rfl⟩, trivial⟩, rfl, rfl, rfl⟩, ?_⟩
  · (try dsimp only); exact ⟨[], rfl, hO, by omega⟩
  rintro ⟨S, es⟩ hk
  obtain ⟨o, rfl, hoO, hSN⟩ : ∃ o : List Share, es = o.map encS ∧ o ++ ordO m S = O ∧ S < N := hk
  (try dsimp only)
  have hol : (o.map encS).length = o.length := List.length_map ..
  have hol2 : o.length ≤ O.length := by rw [← hoO, List.length_append]; omega
  by_cases h0 : S = 0
  · rw [h0, ordO_zero, List.append_nil] at hoO
    subst hoO
    repeat' ((conv => whnf); first | (refine ⟨fun h => ?_, fun h => ?_⟩ <;> try (exfalso; first | omega | exact absurd h (by decide) | exact h rfl | exact absurd (show true = false from h) (by decide) | exact absurd (show false = true from h) (by decide))) | fail | fail)
    refine ⟨Nat × Int × (List Tfer), fun xq => ⟨[(5, .osl 0), (9, .osl 1), (10, I xq.2.1), (11, I xq.1)], [(0, .row 58 2 (o.map encS)), (1, .row 68 3 (xq.2.2.map encT))], 2⟩, fun xq => (xq.1 ≤ o.length ∧ xq.2.2.length ≤ xq.1) ∧ xq.2.1 = sumA (o.take xq.1) ∧ rtrR xq.2.1 (o.drop xq.1) xq.2.2 = rtrR 0 o [], fun xq => o.length - xq.1, ⟨(0, 0, []), ?_, [], ⟨⟨rfl, rfl⟩, ⟨⟨rfl, rfl⟩, ⟨⟨rfl, rfl⟩, ⟨⟨rfl, rfl⟩, trivial⟩⟩⟩⟩, ⟨⟨rfl, rfl, rfl⟩, ⟨⟨rfl, rfl, rfl⟩, trivial⟩⟩, rfl, rfl, rfl⟩, ?_⟩
    · (try dsimp only); exact ⟨⟨Nat.zero_le _, Nat.le_refl _⟩, rfl, rfl⟩
    rintro ⟨k, c, out⟩ hk
    obtain ⟨⟨hk, hil⟩, hc, hrt⟩ : (k ≤ o.length ∧ out.length ≤ k) ∧ c = sumA (o.take k) ∧ rtrR c (o.drop k) out = rtrR 0 o [] := hk
    (try dsimp only)
    have hbd := sumA_bnd (fun x hx => by obtain ⟨i, hi, _⟩ := hspec.mem x hx; exact hn.ok x (List.mem_of_getElem? hi)) k hk
    by_cases hkl : k + 1 < o.length
    · obtain ⟨x, hx⟩ := getElem_some (show k < o.length by omega)
      obtain ⟨y, hy⟩ := getElem_some hkl
      have hbd' := sumA_bnd (fun x hx => by obtain ⟨i, hi, _⟩ := hspec.mem x hx; exact hn.ok x (List.mem_of_getElem? hi)) (k + 1) (by omega)
      have hcs : c + x.a = sumA (o.take (k + 1)) := by rw [hc, sumA_snoc hx]
      rw [rtr_step hx hy] at hrt
      obtain ⟨d, hd⟩ : ∃ d, c + x.a = d := ⟨_, rfl⟩
      rw [hd] at hrt hcs
      rw [← hc] at hbd
      rw [← hcs] at hbd'
      by_cases h1 : 0 < d
      · have hst : stpT d x y out = insT out ⟨y.o, x.o, d⟩ := if_pos h1
        rw [hst] at hrt
        repeat' ((conv => whnf); first | (refine ⟨fun h => ?_, fun h => ?_⟩ <;> try (exfalso; first | omega | exact absurd h (by decide) | exact h rfl | exact absurd (show true = false from h) (by decide) | exact absurd (show false = true from h) (by decide))) | (refine ⟨by omega, fun r hrr => ?_⟩; first | ((have hre : r = encS x := by (first | exact get_row hrr hx | fail)); subst hre) | ((have hre : r = encS y := by (first | exact get_rowi (j := k + 1) hrr (by omega) hy | fail)); subst hre)) | (refine ⟨⟨by omega, by omega⟩, ?_⟩; rw [hd]) | (refine ⟨[1], _, insert_g, (out, ⟨y.o, x.o, d⟩), (by show out.length ≤ 1000; omega), ⟨⟨⟨rfl, rfl, rfl⟩, trivial⟩, rfl, rfl, rfl⟩, ⟨⟨rfl, rfl⟩, (by first | exact leV_refl _ | exact ⟨rfl, rfl, rfl, trivial⟩), trivial⟩, .inl rfl, ⟨⟨trivial, trivial⟩, trivial⟩, ?_⟩) | (refine ⟨(k + 1, d, insT out ⟨y.o, x.o, d⟩), ⟨?_, by (try dsimp only); omega⟩, [(1, 2)], ⟨⟨rfl, rfl⟩, ⟨⟨rfl, rfl⟩, ⟨⟨rfl, rfl⟩, ⟨⟨rfl, rfl⟩, trivial⟩⟩⟩⟩, ⟨⟨rfl, rfl, rfl⟩, ⟨⟨rfl, rfl, rfl⟩, trivial⟩⟩, rfl, rfl, rfl⟩; (try dsimp only); exact ⟨⟨by omega, by rw [show (insT out ⟨y.o, x.o, d⟩).length = out.length + 1 from bubT_len _ _ _]; omega⟩, hcs, hrt⟩) | refine ⟨⟨by omega, by omega⟩, ?_⟩ | fail)
      by_cases h2 : d < 0
      · have hst : stpT d x y out = insT out ⟨x.o, y.o, 0 - d⟩ := by unfold stpT; rw [if_neg h1, if_pos h2, Int.zero_sub]
        rw [hst] at hrt
        repeat' ((conv => whnf); first | (refine ⟨fun h => ?_, fun h => ?_⟩ <;> try (exfalso; first | omega | exact absurd h (by decide) | exact h rfl | exact absurd (show true = false from h) (by decide) | exact absurd (show false = true from h) (by decide))) | (refine ⟨by omega, fun r hrr => ?_⟩; first | ((have hre : r = encS x := by (first | exact get_row hrr hx | fail)); subst hre) | ((have hre : r = encS y := by (first | exact get_rowi (j := k + 1) hrr (by omega) hy | fail)); subst hre)) | (refine ⟨⟨by omega, by omega⟩, ?_⟩; rw [hd]) | (refine ⟨[1], _, insert_g, (out, ⟨x.o, y.o, 0 - d⟩), (by show out.length ≤ 1000; omega), ⟨⟨⟨rfl, rfl, rfl⟩, trivial⟩, rfl, rfl, rfl⟩, ⟨⟨rfl, rfl⟩, (by first | exact leV_refl _ | exact ⟨rfl, rfl, rfl, trivial⟩), trivial⟩, .inl rfl, ⟨⟨trivial, trivial⟩, trivial⟩, ?_⟩) | (refine ⟨(k + 1, d, insT out ⟨x.o, y.o, 0 - d⟩), ⟨?_, by (try dsimp only); omega⟩, [(1, 2)], ⟨⟨rfl, rfl⟩, ⟨⟨rfl, rfl⟩, ⟨⟨rfl, rfl⟩, ⟨⟨rfl, rfl⟩, trivial⟩⟩⟩⟩, ⟨⟨rfl, rfl, rfl⟩, ⟨⟨rfl, rfl, rfl⟩, trivial⟩⟩, rfl, rfl, rfl⟩; (try dsimp only); exact ⟨⟨by omega, by rw [show (insT out ⟨x.o, y.o, 0 - d⟩).length = out.length + 1 from bubT_len _ _ _]; omega⟩, hcs, hrt⟩) | refine ⟨⟨by omega, by omega⟩, ?_⟩ | fail)
      · have hst : stpT d x y out = out := by unfold stpT; rw [if_neg h1, if_neg h2]
        rw [hst] at hrt
        repeat' ((conv => whnf); first | (refine ⟨fun h => ?_, fun h => ?_⟩ <;> try (exfalso; first | omega | exact absurd h (by decide) | exact h rfl | exact absurd (show true = false from h) (by decide) | exact absurd (show false = true from h) (by decide))) | (refine ⟨by omega, fun r hrr => ?_⟩; first | ((have hre : r = encS x := by (first | exact get_row hrr hx | fail)); subst hre) | ((have hre : r = encS y := by (first | exact get_rowi (j := k + 1) hrr (by omega) hy | fail)); subst hre)) | (refine ⟨⟨by omega, by omega⟩, ?_⟩; rw [hd]) | (refine ⟨(k + 1, d, out), ⟨?_, by (try dsimp only); omega⟩, [], ⟨⟨rfl, rfl⟩, ⟨⟨rfl, rfl⟩, ⟨⟨rfl, rfl⟩, ⟨⟨rfl, rfl⟩, trivial⟩⟩⟩⟩, ⟨⟨rfl, rfl, rfl⟩, ⟨⟨rfl, rfl, rfl⟩, trivial⟩⟩, rfl, rfl, rfl⟩; (try dsimp only); exact ⟨⟨by omega, by omega⟩, hcs, hrt⟩) | refine ⟨⟨by omega, by omega⟩, ?_⟩ | fail)
    · rw [rtr_end (by omega)] at hrt
      repeat' ((conv => whnf); first | (refine ⟨fun h => ?_, fun h => ?_⟩ <;> try (exfalso; first | omega | exact absurd h (by decide) | exact h rfl | exact absurd (show true = false from h) (by decide) | exact absurd (show false = true from h) (by decide))) | refine ⟨⟨by omega, by omega⟩, ?_⟩ | fail | fail)
      conv => whnf
      refine ⟨[], rfl, trivial, ?_⟩
      show leV (L 3 (out.map encT)) (L 3 ((rnetF l).map encT))
      rw [hR, ← hrt]
      exact leV_refl _
  · have hS : S < 2 ^ m.length := by rw [hN]; exact hSN
    have hS8 : S < 256 := by omega
    repeat' ((conv => whnf); first | (refine ⟨fun h => ?_, fun h => ?_⟩ <;> try (exfalso; first | omega | exact absurd h (by decide) | exact h rfl | exact absurd (show true = false from h) (by decide) | exact absurd (show false = true from h) (by decide))) | fail | fail)
    refine ⟨Int × Nat, fun xq => ⟨[(3, L 2 (m.map encS)), (4, L 1 (tabN N (mosT m))), (5, .osl 0), (6, I S), (7, I xq.1), (8, I xq.2)], [(0, .row 58 2 (o.map encS))], 1⟩, fun xq => xq.2 ≤ m.length ∧ bestP m S xq.2 xq.1, fun xq => m.length - xq.2, ⟨(-1, 0), ?_, [], ⟨⟨rfl, rfl⟩, ⟨⟨rfl, rfl⟩, ⟨⟨rfl, rfl⟩, ⟨⟨rfl, rfl⟩, ⟨⟨rfl, rfl⟩, ⟨⟨rfl, rfl⟩, trivial⟩⟩⟩⟩⟩⟩, ⟨⟨rfl, rfl, rfl⟩, trivial⟩, rfl, rfl, rfl⟩, ?_⟩
    · (try dsimp only); exact ⟨Nat.zero_le _, best_start m S⟩
    rintro ⟨b, i⟩ hk
    obtain ⟨hi, hb⟩ : i ≤ m.length ∧ bestP m S i b := hk
    (try dsimp only)
    by_cases hil : i < m.length
    · cases hbi : S.testBit i with
      | false =>
        have hbit := bit_no hS8 (by omega) hbi
        repeat' ((conv => whnf); first | (refine ⟨(b, i + 1), ⟨?_, by (try dsimp only); omega⟩, [], ⟨⟨rfl, rfl⟩, ⟨⟨rfl, rfl⟩, ⟨⟨rfl, rfl⟩, ⟨⟨rfl, rfl⟩, ⟨⟨rfl, rfl⟩, ⟨⟨rfl, rfl⟩, trivial⟩⟩⟩⟩⟩⟩, ⟨⟨rfl, rfl, rfl⟩, trivial⟩, rfl, rfl, rfl⟩; (try dsimp only); exact ⟨by omega, best_off hb hbi⟩) | (refine ⟨fun h => ?_, fun h => ?_⟩ <;> try (exfalso; first | omega | exact absurd h (by decide) | exact h rfl | exact absurd (show true = false from h) (by decide) | exact absurd (show false = true from h) (by decide))) | (refine ⟨Int.natCast_nonneg _, ?_⟩) | refine ⟨⟨by omega, by omega⟩, ?_⟩ | fail)
      | true =>
        have hbit := bit_yes hS8 (by omega) hbi
        rcases hb with ⟨rfl, hb2⟩ | ⟨k, rfl, ⟨hb2, hb3⟩, hb4, hb5⟩
        · repeat' ((conv => whnf); first | (refine ⟨((i : Int), i + 1), ⟨?_, by (try dsimp only); omega⟩, [], ⟨⟨rfl, rfl⟩, ⟨⟨rfl, rfl⟩, ⟨⟨rfl, rfl⟩, ⟨⟨rfl, rfl⟩, ⟨⟨rfl, rfl⟩, ⟨⟨rfl, rfl⟩, trivial⟩⟩⟩⟩⟩⟩, ⟨⟨rfl, rfl, rfl⟩, trivial⟩, rfl, rfl, rfl⟩; (try dsimp only); exact ⟨by omega, best_first hb2 hbi⟩) | (refine ⟨fun h => ?_, fun h => ?_⟩ <;> try (exfalso; first | omega | exact absurd h (by decide) | exact h rfl | exact absurd (show true = false from h) (by decide) | exact absurd (show false = true from h) (by decide))) | (refine ⟨Int.natCast_nonneg _, ?_⟩) | refine ⟨⟨by omega, by omega⟩, ?_⟩ | fail)
        · obtain ⟨qi, hqi⟩ : ∃ q, S ^^^ 2 ^ i = q := ⟨_, rfl⟩
          obtain ⟨qk, hqk⟩ : ∃ q, S ^^^ 2 ^ k = q := ⟨_, rfl⟩
          have hsi := sub_shl hS8 (by omega) hbi hqi
          have hsk := sub_shl hS8 (by omega) hb3 hqk
          have hli := clr_lt hS8 (by omega) hbi
          have hlk := clr_lt hS8 (by omega) hb3
          rw [hqi] at hli
          rw [hqk] at hlk
          by_cases hg : mosT m (S ^^^ 2 ^ k) < mosT m (S ^^^ 2 ^ i)
          · have hbn := best_gt hb4 hbi hg
            rw [hqi, hqk] at hg
            repeat' ((conv => whnf); first | (refine ⟨((i : Int), i + 1), ⟨?_, by (try dsimp only); omega⟩, [], ⟨⟨rfl, rfl⟩, ⟨⟨rfl, rfl⟩, ⟨⟨rfl, rfl⟩, ⟨⟨rfl, rfl⟩, ⟨⟨rfl, rfl⟩, ⟨⟨rfl, rfl⟩, trivial⟩⟩⟩⟩⟩⟩, ⟨⟨rfl, rfl, rfl⟩, trivial⟩, rfl, rfl, rfl⟩; (try dsimp only); exact ⟨by omega, hbn⟩) | (refine ⟨fun h => ?_, fun h => ?_⟩ <;> try (exfalso; first | omega | exact absurd h (by decide) | exact h rfl | exact absurd (show true = false from h) (by decide) | exact absurd (show false = true from h) (by decide))) | refine idx_tab (N := N) (H := mosT m) (j := qi) rfl (by omega) ?_ | refine idx_tab (N := N) (H := mosT m) (j := qk) rfl (by omega) ?_ | (refine ⟨Int.natCast_nonneg _, ?_⟩) | (rw [hsi]; refine ⟨⟨by omega, by omega⟩, ?_⟩) | (rw [hsk]; refine ⟨⟨by omega, by omega⟩, ?_⟩) | refine ⟨⟨by omega, by omega⟩, ?_⟩ | fail)
          · have hbn := best_le hb2 hb3 hb4 hb5 hg
            rw [hqi, hqk] at hg
            repeat' ((conv => whnf); first | (refine ⟨((k : Int), i + 1), ⟨?_, by (try dsimp only); omega⟩, [], ⟨⟨rfl, rfl⟩, ⟨⟨rfl, rfl⟩, ⟨⟨rfl, rfl⟩, ⟨⟨rfl, rfl⟩, ⟨⟨rfl, rfl⟩, ⟨⟨rfl, rfl⟩, trivial⟩⟩⟩⟩⟩⟩, ⟨⟨rfl, rfl, rfl⟩, trivial⟩, rfl, rfl, rfl⟩; (try dsimp only); exact ⟨by omega, hbn⟩) | (refine ⟨fun h => ?_, fun h => ?_⟩ <;> try (exfalso; first | omega | exact absurd h (by decide) | exact h rfl | exact absurd (show true = false from h) (by decide) | exact absurd (show false = true from h) (by decide))) | refine idx_tab (N := N) (H := mosT m) (j := qi) rfl (by omega) ?_ | refine idx_tab (N := N) (H := mosT m) (j := qk) rfl (by omega) ?_ | (refine ⟨Int.natCast_nonneg _, ?_⟩) | (rw [hsi]; refine ⟨⟨by omega, by omega⟩, ?_⟩) | (rw [hsk]; refine ⟨⟨by omega, by omega⟩, ?_⟩) | refine ⟨⟨by omega, by omega⟩, ?_⟩ | fail)
    · obtain rfl : i = m.length := by omega
      obtain ⟨k, rfl, ⟨hkm, hbk⟩, hpk⟩ := best_pick hn hS h0 hb
      obtain ⟨x, hx⟩ := getElem_some hkm
      have hstep := ordO_step hn hS h0 hpk hbk hx
      obtain ⟨qk, hqk⟩ : ∃ q, S ^^^ 2 ^ k = q := ⟨_, rfl⟩
      have hsk := sub_shl hS8 (by omega) hbk hqk
      have hlk := clr_lt hS8 (by omega) hbk
      rw [hqk] at hlk hstep
      rw [hstep] at hoO
      repeat' ((conv => whnf); first | (refine ⟨fun h => ?_, fun h => ?_⟩ <;> try (exfalso; first | omega | exact absurd h (by decide) | exact h rfl | exact absurd (show true = false from h) (by decide) | exact absurd (show false = true from h) (by decide))) | (refine ⟨by omega, fun r hrr => ?_⟩; first | ((have hre : r = encS x := by (first | exact get_row hrr hx | fail)); subst hre)) | (refine ⟨Int.natCast_nonneg _, ?_⟩) | (refine ⟨⟨by simp only [List.length_map, List.length_cons, List.length_nil]; omega, by simp only [List.length_map, List.length_cons, List.length_nil]; omega⟩, ?_⟩) | (rw [hsk]; refine ⟨⟨by omega, by omega⟩, ?_⟩) | (refine ⟨(qk, _), ⟨?_, by (try dsimp only); omega⟩, [(0, 1)], ⟨⟨rfl, rfl⟩, ⟨⟨rfl, rfl⟩, ⟨⟨rfl, rfl⟩, ⟨⟨rfl, rfl⟩, trivial⟩⟩⟩⟩, ⟨⟨rfl, rfl, rfl⟩, trivial⟩, rfl, rfl, rfl⟩; (try dsimp only); exact ⟨o ++ [x], by rw [List.map_append]; rfl, by rw [List.append_assoc]; exact hoO, by omega⟩) | refine ⟨⟨by omega, by omega⟩, ?_⟩ | fail)
theorem rnet_h : Holds Tryz.prog 73 rnetS := holds_of mix Tryz.func73 rnetLow (fun _ => rfl) rnetV


end Go.Proofs.YtpkhannkbafimaaGreat
