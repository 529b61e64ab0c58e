/- Tables over sets. No program in sight. -/
import Derived.Test.YtpkhannkbafimaaGreatP8
namespace Go.Proofs.YtpkhannkbafimaaGreat

def tabN (N : Nat) (H : Nat → Int) : List (List CV) := (List.range N).map fun v => cI (H v)
theorem tabN_get {N : Nat} {H : Nat → Int} {i : Nat} (h : i < N) : (tabN N H)[i]? = some (cI (H i)) := by
  unfold tabN; rw [List.getElem?_map, List.getElem?_range h]; rfl
theorem tabN_len (N : Nat) (H : Nat → Int) : (tabN N H).length = N := by simp [tabN]
theorem tabN_set {N : Nat} {H : Nat → Int} {i : Nat} {x : Int} : (tabN N H).set i [.int .i64 x] = tabN N (updF H i x) := by
  apply List.ext_getElem?
  intro j
  by_cases hj : j < N
  · rw [tabN_get hj]
    by_cases e : i = j
    · subst e; rw [List.getElem?_set_self (by rw [tabN_len]; exact hj)]; simp [updF]
    · rw [List.getElem?_set_ne e, tabN_get hj]; simp [updF, Ne.symm e]
  · rw [List.getElem?_eq_none (by simp [tabN]; omega), List.getElem?_eq_none (by rw [tabN_len]; omega)]
theorem tabN_zero (N : Nat) : List.replicate N [CV.int .i64 0] = tabN N (fun _ => 0) := by
  apply List.ext_getElem?
  intro j
  by_cases hj : j < N
  · rw [tabN_get hj, List.getElem?_replicate, if_pos hj]
  · rw [List.getElem?_eq_none (by simp; omega), List.getElem?_eq_none (by rw [tabN_len]; omega)]
theorem tabN_congr {N : Nat} {H K : Nat → Int} (h : ∀ j, j < N → H j = K j) : tabN N H = tabN N K := by
  apply List.ext_getElem?
  intro j
  by_cases hj : j < N
  · rw [tabN_get hj, tabN_get hj, h j hj]
  · rw [List.getElem?_eq_none (by rw [tabN_len]; omega), List.getElem?_eq_none (by rw [tabN_len]; omega)]
theorem sumTo_bound {az : List Int} (ha : ∀ i, i < az.length → -137438953472 ≤ az.getD i 0 ∧ az.getD i 0 ≤ 137438953472) (S : Nat) : ∀ k, k ≤ az.length → -137438953472 * (k : Int) ≤ sumTo az S k ∧ sumTo az S k ≤ 137438953472 * (k : Int)
  | 0, _ => by simp [sumTo]
  | k + 1, h => by
    have := sumTo_bound ha S k (by omega)
    have := ha k (by omega)
    rw [sumTo]
    split <;> omega
theorem most_card {az : List Int} (hn : az.length ≤ 8) : ∀ S, S < 2 ^ az.length → mostB az S ≤ cardTo S az.length := by
  intro S
  induction S using Nat.strongRecOn with
  | _ S ih =>
    intro hS
    have h256 := pow_le8 hn
    by_cases h0 : S = 0
    · subst h0; exact Nat.zero_le _
    · obtain ⟨i, h1, h2, h3⟩ := most_ex hn hS h0
      have hlt := clr_lt (by omega) (by omega) h2
      have := ih _ hlt (by omega)
      have hc := cardTo_clr h2 az.length
      rw [if_pos h1] at hc
      unfold zB at h3
      split at h3 <;> omega
theorem cardTo_le (S : Nat) : ∀ k, cardTo S k ≤ k
  | 0 => Nat.le_refl _
  | k + 1 => by have := cardTo_le S k; rw [cardTo]; split <;> omega
/-- Positions whose sets can be told. -/
structure Few (l : List Share) : Prop where
  len : l.length ≤ 8
  ok : ∀ x ∈ l, okS x
theorem Few.amt {l : List Share} (h : Few l) : (amt l).length = l.length ∧ ∀ i, i < (Go.Proofs.YtpkhannkbafimaaGreat.amt l).length → -137438953472 ≤ (Go.Proofs.YtpkhannkbafimaaGreat.amt l).getD i 0 ∧ (Go.Proofs.YtpkhannkbafimaaGreat.amt l).getD i 0 ≤ 137438953472 := by
  have hl : (Go.Proofs.YtpkhannkbafimaaGreat.amt l).length = l.length := by simp [Go.Proofs.YtpkhannkbafimaaGreat.amt]
  refine ⟨hl, fun i hi => ?_⟩
  rw [hl] at hi
  obtain ⟨x, hx⟩ := getElem_some hi
  have : (Go.Proofs.YtpkhannkbafimaaGreat.amt l).getD i 0 = x.a := by simp [Go.Proofs.YtpkhannkbafimaaGreat.amt, hx]
  rw [this]
  exact (h.ok x (List.mem_of_getElem? hx)).2
theorem Few.sum {l : List Share} (h : Few l) (S : Nat) : -1099511627776 ≤ sumB (Go.Proofs.YtpkhannkbafimaaGreat.amt l) S ∧ sumB (Go.Proofs.YtpkhannkbafimaaGreat.amt l) S ≤ 1099511627776 := by
  have := sumTo_bound h.amt.2 S _ (Nat.le_refl _)
  have := h.amt.1
  have := h.len
  unfold sumB
  omega
theorem Few.sumTo {l : List Share} (h : Few l) (S : Nat) {k : Nat} (hk : k ≤ l.length) : -1099511627776 ≤ sumTo (Go.Proofs.YtpkhannkbafimaaGreat.amt l) S k ∧ sumTo (Go.Proofs.YtpkhannkbafimaaGreat.amt l) S k ≤ 1099511627776 := by
  have := h.amt.1
  have := sumTo_bound h.amt.2 S k (by omega)
  have := h.len
  omega
theorem Few.most {l : List Share} (h : Few l) {S : Nat} (hS : S < 2 ^ l.length) : mostB (Go.Proofs.YtpkhannkbafimaaGreat.amt l) S ≤ 8 := by
  have h1 := h.amt.1
  have h2 := h.len
  have := most_card (az := Go.Proofs.YtpkhannkbafimaaGreat.amt l) (by omega) S (by rw [h1]; exact hS)
  have := cardTo_le S (Go.Proofs.YtpkhannkbafimaaGreat.amt l).length
  omega
def sumT (l : List Share) (S : Nat) : Int := sumB (amt l) S
def mosT (l : List Share) (S : Nat) : Int := mostB (amt l) S
/-- The facts on the bit i of a set. -/
theorem bit_yes {S i : Nat} (hS : S < 256) (hi : i < 8) (hb : S.testBit i = true) : IntKind.wrap .i64 ((BitVec.ofInt (IntKind.bits .i64) ((S : Int).fdiv (2 ^ Nat.min ((i : Int).toNat) (IntKind.bits .i64))) &&& BitVec.ofInt (IntKind.bits .i64) 1).toNat) = 1 := by rw [bit_eq hS hi, hb]; rfl
theorem bit_no {S i : Nat} (hS : S < 256) (hi : i < 8) (hb : S.testBit i = false) : IntKind.wrap .i64 ((BitVec.ofInt (IntKind.bits .i64) ((S : Int).fdiv (2 ^ Nat.min ((i : Int).toNat) (IntKind.bits .i64))) &&& BitVec.ofInt (IntKind.bits .i64) 1).toNat) = 0 := by rw [bit_eq hS hi, hb]; rfl
theorem clr_yes {S i : Nat} (hS : S < 256) (hi : i < 8) (hb : S.testBit i = true) : IntKind.wrap .i64 ((BitVec.ofInt (IntKind.bits .i64) (S : Int) &&& ~~~ BitVec.ofInt (IntKind.bits .i64) (IntKind.wrap .i64 (1 * 2 ^ Nat.min ((i : Int).toNat) (IntKind.bits .i64)))).toNat) = ((S ^^^ 2 ^ i : Nat) : Int) := by
  rw [shl_eq (by omega), clr_int hS hi, if_pos hb]
theorem clr_no {S i : Nat} (hS : S < 256) (hi : i < 8) (hb : S.testBit i = false) : IntKind.wrap .i64 ((BitVec.ofInt (IntKind.bits .i64) (S : Int) &&& ~~~ BitVec.ofInt (IntKind.bits .i64) (IntKind.wrap .i64 (1 * 2 ^ Nat.min ((i : Int).toNat) (IntKind.bits .i64)))).toNat) = (S : Int) := by
  rw [shl_eq (by omega), clr_int hS hi, if_neg (by rw [hb]; decide)]
/-- What stands in the tables while they are filled. -/
def Fil (l : List Share) (S : Nat) (F G : Nat → Int) : Prop := ∀ j, j < 2 ^ l.length → (j < S → F j = sumT l j ∧ G j = mosT l j) ∧ (S < j → F j = 0 ∧ G j = 0)
/-- .. and while the elements of a set are looked through. -/
structure FilIn (l : List Share) (S i : Nat) (F G : Nat → Int) : Prop where
  fil : Fil l S F G
  sum : ∀ j, j < i → S.testBit j = true → F S = sumT l S
  mx : G S = (maxTo (mostB (amt l)) S i : Nat)
  fb : F S = 0 ∨ F S = sumT l S
theorem Fil.start (l : List Share) : Fil l 1 (fun _ => 0) (fun _ => 0) := by
  intro j hj
  refine ⟨fun h => ?_, fun _ => ⟨rfl, rfl⟩⟩
  obtain rfl : j = 0 := by omega
  exact ⟨(sumB_zero _).symm, rfl⟩
theorem FilIn.skip {l : List Share} {S i : Nat} {F G : Nat → Int} (h : FilIn l S i F G) (hb : S.testBit i = false) : FilIn l S (i + 1) F G := by
  refine ⟨h.fil, fun j hj hbj => ?_, ?_, h.fb⟩
  · by_cases e : j = i
    · subst e; rw [hb] at hbj; cases hbj
    · exact h.sum j (by omega) hbj
  · rw [maxTo, if_neg (by rw [hb]; decide)]; exact h.mx
theorem FilIn.take {l : List Share} (hf : Few l) {S i : Nat} (hS : S < 2 ^ l.length) {F G : Nat → Int} (h : FilIn l S i F G) (hb : S.testBit i = true) {x : Share} (hx : l[i]? = some x) :
    FilIn l S (i + 1) (updF F S (F (S ^^^ 2 ^ i) + x.a)) (updF G S (max (G S) (G (S ^^^ 2 ^ i)))) := by
  have h8 := hf.len
  have h256 := pow_le8 h8
  have hil := (List.getElem?_eq_some_iff.1 hx).1
  have hlt := clr_lt (by omega) (by omega) hb
  obtain ⟨q1, q2⟩ := (h.fil (S ^^^ 2 ^ i) (by omega)).1 hlt
  have hs : F (S ^^^ 2 ^ i) + x.a = sumT l S := by
    have h3 := sumB_clr (az := amt l) hb (by rw [hf.amt.1]; exact hil)
    have h4 : (amt l).getD i 0 = x.a := by simp [amt, hx]
    rw [q1]
    unfold sumT
    omega
  refine ⟨fun j hj => ?_, fun j _ _ => by simp [updF, hs], ?_, .inr (by simp [updF, hs])⟩
  · obtain ⟨r1, r2⟩ := h.fil j hj
    refine ⟨fun hjS => ?_, fun hjS => ?_⟩
    · have : j ≠ S := by omega
      simp only [updF, if_neg this]; exact r1 hjS
    · have : j ≠ S := by omega
      simp only [updF, if_neg this]; exact r2 hjS
  · have hm := h.mx
    simp only [updF, if_true]
    rw [maxTo, if_pos hb, hm, q2]
    unfold mosT
    omega
theorem FilIn.done {l : List Share} (hf : Few l) {S : Nat} (hS : S < 2 ^ l.length) (h0 : 0 < S) {F G : Nat → Int} (h : FilIn l S l.length F G) : F S = sumT l S ∧ G S + (zB (amt l) S : Nat) = mosT l S := by
  obtain ⟨i, hi⟩ := Nat.exists_testBit_of_ne_zero (x := S) (by omega)
  have h8 := hf.len
  have h256 := pow_le8 h8
  refine ⟨h.sum i (bit_lt hS hi) hi, ?_⟩
  have hms := most_step (az := amt l) (by rw [hf.amt.1]; exact h8) (S := S) (by omega) (by omega)
  rw [hf.amt.1] at hms
  have := h.mx
  unfold mosT
  omega
theorem FilIn.next {l : List Share} {S : Nat} {F G : Nat → Int} (h : Fil l S F G) (h1 : F S = sumT l S) (h2 : G S = mosT l S) : ∀ j, j < 2 ^ l.length → (j < S + 1 → F j = sumT l j ∧ G j = mosT l j) ∧ (S + 1 < j → F j = 0 ∧ G j = 0) := by
  intro j hj
  obtain ⟨r1, r2⟩ := h j hj
  refine ⟨fun hjS => ?_, fun hjS => r2 (by omega)⟩
  by_cases e : j = S
  · subst e; exact ⟨h1, h2⟩
  · exact r1 (by omega)
/-- At the head of a round nothing stands yet at the set. -/
def Fil0 (l : List Share) (S : Nat) (F G : Nat → Int) : Prop := Fil l S F G ∧ (S < 2 ^ l.length → F S = 0 ∧ G S = 0)
theorem Fil0.start (l : List Share) : Fil0 l 1 (fun _ => 0) (fun _ => 0) := ⟨Fil.start l, fun _ => ⟨rfl, rfl⟩⟩
theorem Fil0.inner {l : List Share} {S : Nat} {F G : Nat → Int} (h : Fil0 l S F G) (hS : S < 2 ^ l.length) : FilIn l S 0 F G :=
  ⟨h.1, fun j hj => by omega, by rw [(h.2 hS).2]; rfl, .inl (h.2 hS).1⟩
theorem Fil.next {l : List Share} {S : Nat} {F G : Nat → Int} (h : Fil l S F G) (h1 : F S = sumT l S) (h2 : G S = mosT l S) : Fil0 l (S + 1) F G := by
  have h' := FilIn.next h h1 h2
  exact ⟨h', fun hS => (h (S + 1) hS).2 (by omega)⟩
theorem Fil.updG {l : List Share} {S : Nat} {F G : Nat → Int} (h : Fil l S F G) (x : Int) : Fil l S F (updF G S x) := by
  intro j hj
  obtain ⟨r1, r2⟩ := h j hj
  refine ⟨fun hjS => ?_, fun hjS => ?_⟩
  · have : j ≠ S := by omega
    simp only [updF, if_neg this]; exact r1 hjS
  · have : j ≠ S := by omega
    simp only [updF, if_neg this]; exact r2 hjS
theorem idx_tab {N : Nat} {H : Nat → Int} {i : Int} {j : Nat} (hi : i = j) (h : j < N) {K : List CV → Prop} (k : K (cI (H j))) : (0 ≤ i ∧ i < (tabN N H).length) ∧ ∀ r, (tabN N H)[i.toNat]? = some r → K r := by
  subst hi
  refine ⟨⟨by omega, by rw [tabN_len]; omega⟩, fun r hr => ?_⟩
  rw [Int.toNat_natCast, tabN_get h] at hr
  cases hr
  exact k
theorem nzl_few {l : List Share} (h : RightP l) : Few (nzl l) := ⟨(nzl_nz h).len, (nzl_nz h).ok⟩
/-- The sums of the sets while they are filled. -/
def SFil (l : List Share) (S : Nat) (F : Nat → Int) : Prop := ∀ j, j < 2 ^ l.length → (j < S → F j = sumT l j) ∧ (S < j → F j = 0)
theorem SFil.start (l : List Share) : SFil l 1 (fun _ => 0) := by
  intro j hj
  refine ⟨fun h => ?_, fun _ => rfl⟩
  obtain rfl : j = 0 := by omega
  exact (sumB_zero _).symm
theorem SFil.upd {l : List Share} {S : Nat} {F : Nat → Int} (h : SFil l S F) (x : Int) : SFil l S (updF F S x) := by
  intro j hj
  obtain ⟨r1, r2⟩ := h j hj
  refine ⟨fun hjS => ?_, fun hjS => ?_⟩
  · have : j ≠ S := by omega
    simp only [updF, if_neg this]; exact r1 hjS
  · have : j ≠ S := by omega
    simp only [updF, if_neg this]; exact r2 hjS
theorem SFil.next {l : List Share} {S : Nat} {F : Nat → Int} (h : SFil l S F) (h1 : F S = sumT l S) : SFil l (S + 1) F := by
  intro j hj
  obtain ⟨r1, r2⟩ := h j hj
  refine ⟨fun hjS => ?_, fun hjS => r2 (by omega)⟩
  by_cases e : j = S
  · subst e; exact h1
  · exact r1 (by omega)
def MFil (l : List Share) (S : Nat) (G : Nat → Int) : Prop := ∀ j, j < 2 ^ l.length → (j < S → G j = mosT l j) ∧ (S < j → G j = 0)
theorem MFil.start (l : List Share) : MFil l 1 (fun _ => 0) := by
  intro j hj
  refine ⟨fun h => ?_, fun _ => rfl⟩
  obtain rfl : j = 0 := by omega
  rfl
theorem MFil.upd {l : List Share} {S : Nat} {F : Nat → Int} (h : MFil l S F) (x : Int) : MFil l S (updF F S x) := by
  intro j hj
  obtain ⟨r1, r2⟩ := h j hj
  refine ⟨fun hjS => ?_, fun hjS => ?_⟩
  · have : j ≠ S := by omega
    simp only [updF, if_neg this]; exact r1 hjS
  · have : j ≠ S := by omega
    simp only [updF, if_neg this]; exact r2 hjS
theorem MFil.next {l : List Share} {S : Nat} {F : Nat → Int} (h : MFil l S F) (h1 : F S = mosT l S) : MFil l (S + 1) F := by
  intro j hj
  obtain ⟨r1, r2⟩ := h j hj
  refine ⟨fun hjS => ?_, fun hjS => r2 (by omega)⟩
  by_cases e : j = S
  · subst e; exact h1
  · exact r1 (by omega)
theorem mos_step {l : List Share} (hf : Few l) {S : Nat} (hS : S < 2 ^ l.length) (h0 : 0 < S) : mosT l S = (maxTo (mostB (amt l)) S l.length : Nat) + (zB (amt l) S : Nat) := by
  have h8 := hf.len
  have h256 := pow_le8 h8
  have hms := most_step (az := amt l) (by rw [hf.amt.1]; exact h8) (S := S) (by omega) (by omega)
  rw [hf.amt.1] at hms
  unfold mosT
  omega
end Go.Proofs.YtpkhannkbafimaaGreat
