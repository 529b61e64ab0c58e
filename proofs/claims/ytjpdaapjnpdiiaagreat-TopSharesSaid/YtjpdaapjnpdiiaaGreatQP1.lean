/- A part of the proof. -/
import Derived.Test.YtjpdaapjnpdiiaaGreatE4
namespace Go.Proofs.YtjpdaapjnpdiiaaGreat.P
structure Share where
 o : Int
 a : Int
 deriving DecidableEq
structure Tfer where
 f : Int
 t : Int
 a : Int
 deriving DecidableEq
def amt (l : List Share) : List Int := l.map (·.a)
def sumA (l : List Share) : Int := (amt l).sum
def okS (x : Share) : Prop := (1 ≤ x.o ∧ x.o ≤ 8) ∧ -137438953472 ≤ x.a ∧ x.a ≤ 137438953472
instance (x : Share) : Decidable (okS x) := by unfold okS; infer_instance
def goE (p : Int) : List Share → Int
 | [] => 0
 | x :: r => if okS x then (if x.o ≤ p then 11 else goE x.o r) else 2
def rightF (l : List Share) : Int := if 8 < l.length then 4 else if goE 0 l = 0 then (if sumA l = 0 then 0 else 1) else goE 0 l
def prevO (l : List Share) (k : Nat) : Int := match k with
 | 0 => 0
 | j + 1 => match l[j]? with
   | some x => x.o
   | none => 0
theorem sum_snoc (l : List Int) (x : Int) : (l ++ [x]).sum = l.sum + x := by
 induction l with
 | nil => simp
 | cons y r ih => simp only [List.cons_append, List.sum_cons, ih]; omega
theorem sumA_snoc {l : List Share} {k : Nat} {x : Share} (h : l[k]? = some x) : sumA (l.take (k + 1)) = sumA (l.take k) + x.a := by
 rw [take_snoc l k x h]; unfold sumA amt; rw [List.map_append]; exact sum_snoc _ _
theorem goE_step {l : List Share} {k : Nat} {x : Share} (h : l[k]? = some x) : goE (prevO l k) (l.drop k) = if okS x then (if x.o ≤ prevO l k then 11 else goE (prevO l (k + 1)) (l.drop (k + 1))) else 2 := by
 rw [drop_of h, goE]
 have : prevO l (k + 1) = x.o := by simp [prevO, h]
 rw [this]
theorem goE_end {l : List Share} {k : Nat} (h : ¬ k < l.length) (p : Int) : goE p (l.drop k) = 0 := by rw [drop_end h]; rfl
structure RightP (l : List Share) : Prop where
 len : l.length ≤ 8
 ok : ∀ x ∈ l, okS x
 inc : l.Pairwise fun a b => a.o < b.o
 sum : sumA l = 0
theorem goE_ok : ∀ {l : List Share} {p : Int}, goE p l = 0 → (∀ x ∈ l, okS x) ∧ (∀ x ∈ l, p < x.o) ∧ l.Pairwise fun a b => a.o < b.o
 | [], p, _ => by simp
 | x :: r, p, h => by
   rw [goE] at h
   split at h
   · rename_i hx
     split at h
     · omega
     · rename_i hp
       obtain ⟨h1, h2, h3⟩ := goE_ok h
       refine ⟨fun y hy => ?_, fun y hy => ?_, List.pairwise_cons.2 ⟨h2, h3⟩⟩
       · rcases List.mem_cons.1 hy with rfl | hy
         · exact hx
         · exact h1 y hy
       · rcases List.mem_cons.1 hy with rfl | hy
         · omega
         · have := h2 y hy; omega
   · omega
theorem ok_goE : ∀ {l : List Share} {p : Int}, (∀ x ∈ l, okS x) → (∀ x ∈ l, p < x.o) → (l.Pairwise fun a b => a.o < b.o) → goE p l = 0
 | [], p, _, _, _ => rfl
 | x :: r, p, h1, h2, h3 => by
   obtain ⟨h4, h5⟩ := List.pairwise_cons.1 h3
   have := h2 x (by simp)
   rw [goE, if_pos (h1 x (by simp)), if_neg (by omega)]
   exact ok_goE (fun y hy => h1 y (by simp [hy])) h4 h5
theorem right_iff {l : List Share} : rightF l = 0 ↔ RightP l := by
 unfold rightF
 constructor
 · intro h
   split at h
   · omega
   · rename_i h8
     split at h
     · rename_i hg
       split at h
       · rename_i hs
         obtain ⟨h1, _, h3⟩ := goE_ok hg
         exact ⟨by omega, h1, h3, hs⟩
       · omega
     · contradiction
 · intro ⟨h1, h2, h3, h4⟩
   rw [if_neg (by omega), if_pos (ok_goE h2 (fun x hx => by have := (h2 x hx).1.1; omega) h3), if_pos h4]
def sumTo (az : List Int) (S : Nat) : Nat → Int
 | 0 => 0
 | k + 1 => sumTo az S k + if S.testBit k then az.getD k 0 else 0
def sumB (az : List Int) (S : Nat) : Int := sumTo az S az.length
def zB (az : List Int) (S : Nat) : Nat := if sumB az S = 0 then 1 else 0
def maxTo (g : Nat → Nat) (S : Nat) : Nat → Nat
 | 0 => 0
 | k + 1 => if S.testBit k then max (maxTo g S k) (g (S ^^^ 2 ^ k)) else maxTo g S k
def mostF (az : List Int) : Nat → Nat → Nat
 | 0, _ => 0
 | f + 1, S => if S = 0 then 0 else maxTo (mostF az f) S az.length + zB az S
def mostB (az : List Int) (S : Nat) : Nat := mostF az (S + 1) S
theorem maxTo_congr {g h : Nat → Nat} {S : Nat} : ∀ k, (∀ i, i < k → S.testBit i = true → g (S ^^^ 2 ^ i) = h (S ^^^ 2 ^ i)) → maxTo g S k = maxTo h S k
 | 0, _ => rfl
 | k + 1, hh => by
   rw [maxTo, maxTo, maxTo_congr k fun i hi => hh i (by omega)]
   split
   · rename_i hb; rw [hh k (by omega) hb]
   · rfl
theorem maxTo_le {g : Nat → Nat} {S : Nat} : ∀ {k i}, i < k → S.testBit i = true → g (S ^^^ 2 ^ i) ≤ maxTo g S k
 | 0, i, h, _ => by omega
 | k + 1, i, h, hb => by
   rw [maxTo]
   by_cases e : i = k
   · subst e; rw [if_pos hb]; omega
   · have := maxTo_le (g := g) (S := S) (k := k) (i := i) (by omega) hb
     split <;> omega
theorem maxTo_mem {g : Nat → Nat} {S : Nat} : ∀ {k}, (∃ i, i < k ∧ S.testBit i = true) → ∃ i, i < k ∧ S.testBit i = true ∧ maxTo g S k = g (S ^^^ 2 ^ i)
 | 0, ⟨i, h, _⟩ => by omega
 | k + 1, ⟨i, h, hb⟩ => by
   rw [maxTo]
   by_cases hk : S.testBit k = true
   · rw [if_pos hk]
     by_cases hex : ∃ i, i < k ∧ S.testBit i = true
     · obtain ⟨j, h1, h2, h3⟩ := maxTo_mem (g := g) hex
       by_cases hle : maxTo g S k ≤ g (S ^^^ 2 ^ k)
       · exact ⟨k, by omega, hk, by omega⟩
       · exact ⟨j, by omega, h2, by omega⟩
     · have h0 : maxTo g S k = 0 := by
         have : ∀ m, m ≤ k → maxTo g S m = 0 := by
           intro m hm
           induction m with
           | zero => rfl
           | succ m ih =>
             rw [maxTo, if_neg (fun hb => hex ⟨m, by omega, hb⟩)]
             exact ih (by omega)
         exact this k (by omega)
       exact ⟨k, by omega, hk, by omega⟩
   · rw [if_neg hk]
     have : i ≠ k := fun e => by subst e; exact hk hb
     obtain ⟨j, h1, h2, h3⟩ := maxTo_mem (g := g) (S := S) (k := k) ⟨i, by omega, hb⟩
     exact ⟨j, by omega, h2, h3⟩
theorem xor_facts : ∀ S : Fin 256, ∀ i : Fin 8, S.1.testBit i.1 = true → S.1 ^^^ (2 ^ i.1) = S.1 - 2 ^ i.1 ∧ 2 ^ i.1 ≤ S.1 := by decide +kernel
theorem clr_eq {S i : Nat} (hS : S < 256) (hi : i < 8) (h : S.testBit i = true) : S ^^^ 2 ^ i = S - 2 ^ i ∧ 2 ^ i ≤ S := xor_facts ⟨S, hS⟩ ⟨i, hi⟩ h
theorem clr_lt {S i : Nat} (hS : S < 256) (hi : i < 8) (h : S.testBit i = true) : S ^^^ 2 ^ i < S := by
 obtain ⟨h1, h2⟩ := clr_eq hS hi h
 have : 0 < 2 ^ i := Nat.two_pow_pos i
 omega
theorem clr_bit (S i j : Nat) (h : S.testBit i = true) : (S ^^^ 2 ^ i).testBit j = (S.testBit j && !decide (i = j)) := by
 rw [Nat.testBit_xor, Nat.testBit_two_pow]
 by_cases e : i = j
 · subst e; simp [h]
 · simp [e]
theorem mostF_fuel {az : List Int} (hn : az.length ≤ 8) : ∀ (S f g : Nat), S < 256 → S < f → S < g → mostF az f S = mostF az g S := by
 intro S
 induction S using Nat.strongRecOn with
 | _ S ih =>
   intro f g hS hf hg
   obtain ⟨f, rfl⟩ : ∃ f', f = f' + 1 := ⟨f - 1, by omega⟩
   obtain ⟨g, rfl⟩ : ∃ g', g = g' + 1 := ⟨g - 1, by omega⟩
   rw [mostF, mostF]
   split
   · rfl
   · congr 1
     refine maxTo_congr _ fun i hi hb => ?_
     have := clr_lt hS (by omega) hb
     exact ih _ this f g (by omega) (by omega) (by omega)
theorem most_zero (az : List Int) : mostB az 0 = 0 := rfl
theorem most_step {az : List Int} (hn : az.length ≤ 8) {S : Nat} (hS : S < 256) (h0 : S ≠ 0) : mostB az S = maxTo (mostB az) S az.length + zB az S := by
 show mostF az (S + 1) S = _
 rw [mostF, if_neg h0]
 congr 1
 refine maxTo_congr _ fun i hi hb => ?_
 have := clr_lt hS (by omega) hb
 exact mostF_fuel hn _ _ _ (by omega) (by omega) (by omega)
theorem lt_bits {S n : Nat} (h : ∀ i, S.testBit i = true → i < n) : S < 2 ^ n := Nat.lt_pow_two_of_testBit S fun i hi => by
 cases hb : S.testBit i with
 | false => rfl
 | true => have := h i hb; omega
theorem bit_lt {S n i : Nat} (h : S < 2 ^ n) (hb : S.testBit i = true) : i < n := by
 rcases Nat.lt_or_ge i n with h1 | h1
 · exact h1
 · have : S < 2 ^ i := Nat.lt_of_lt_of_le h (Nat.pow_le_pow_right (by omega) h1)
   rw [Nat.testBit_lt_two_pow this] at hb; cases hb
theorem pow_le8 {n : Nat} (h : n ≤ 8) : 2 ^ n ≤ 256 := Nat.pow_le_pow_right (by omega) h
theorem most_le {az : List Int} (hn : az.length ≤ 8) {S i : Nat} (hS : S < 2 ^ az.length) (hb : S.testBit i = true) : mostB az (S ^^^ 2 ^ i) + zB az S ≤ mostB az S := by
 have h0 : S ≠ 0 := by rintro rfl; simp at hb
 rw [most_step hn (by have := pow_le8 hn; omega) h0]
 have := maxTo_le (g := mostB az) (bit_lt hS hb) hb
 omega
theorem most_ex {az : List Int} (hn : az.length ≤ 8) {S : Nat} (hS : S < 2 ^ az.length) (h0 : S ≠ 0) : ∃ i, i < az.length ∧ S.testBit i = true ∧ mostB az S = mostB az (S ^^^ 2 ^ i) + zB az S := by
 obtain ⟨i, hi⟩ := Nat.exists_testBit_of_ne_zero h0
 obtain ⟨j, h1, h2, h3⟩ := maxTo_mem (g := mostB az) ⟨i, bit_lt hS hi, hi⟩
 exact ⟨j, h1, h2, by rw [most_step hn (by have := pow_le8 hn; omega) h0, h3]⟩
def Sub (T S : Nat) : Prop := ∀ i, T.testBit i = true → S.testBit i = true
theorem Sub.eq_or {T S : Nat} (h : Sub T S) : T = S ∨ ∃ i, S.testBit i = true ∧ T.testBit i = false := by
 by_cases hex : ∃ i, S.testBit i = true ∧ T.testBit i = false
 · exact .inr hex
 · refine .inl (Nat.eq_of_testBit_eq fun i => ?_)
   cases hT : T.testBit i with
   | true => exact (h i hT).symm
   | false =>
     cases hSi : S.testBit i with
     | false => rfl
     | true => exact absurd ⟨i, hSi, hT⟩ hex
theorem Sub.clr {T S i : Nat} (h : Sub T S) (h1 : S.testBit i = true) (h2 : T.testBit i = false) : Sub T (S ^^^ 2 ^ i) := by
 intro j hj
 rw [clr_bit _ _ _ h1, h j hj]
 have : i ≠ j := fun e => by subst e; rw [h2] at hj; cases hj
 simp [this]
theorem most_mono {az : List Int} (hn : az.length ≤ 8) : ∀ (S T : Nat), S < 2 ^ az.length → Sub T S → mostB az T ≤ mostB az S := by
 intro S
 induction S using Nat.strongRecOn with
 | _ S ih =>
   intro T hS h
   rcases h.eq_or with rfl | ⟨i, h1, h2⟩
   · exact Nat.le_refl _
   · have hlt := clr_lt (by have := pow_le8 hn; omega) (by have := bit_lt hS h1; omega) h1
     have := ih _ hlt T (by omega) (h.clr h1 h2)
     have := most_le hn hS h1
     omega
theorem most_more {az : List Int} (hn : az.length ≤ 8) {S T : Nat} (hS : S < 2 ^ az.length) (h : Sub T S) (hne : T ≠ S) (hz : sumB az S = 0) : mostB az T + 1 ≤ mostB az S := by
 rcases h.eq_or with rfl | ⟨i, h1, h2⟩
 · exact absurd rfl hne
 · have hlt := clr_lt (by have := pow_le8 hn; omega) (by have := bit_lt hS h1; omega) h1
   have := most_mono hn _ T (by omega) (h.clr h1 h2)
   have := most_le hn hS h1
   unfold zB at this
   rw [if_pos hz] at this
   omega
def maskOf (p : Nat → Bool) : Nat → Nat
 | 0 => 0
 | k + 1 => maskOf p k ||| (if p k then 2 ^ k else 0)
theorem mask_bit (p : Nat → Bool) : ∀ k j, (maskOf p k).testBit j = (decide (j < k) && p j)
 | 0, j => by simp [maskOf]
 | k + 1, j => by
   rw [maskOf, Nat.testBit_or, mask_bit p k j]
   by_cases e : j = k
   · subst e
     cases hp : p j <;> simp
   · cases hp : p k <;> simp [Ne.symm e, show (j < k + 1) ↔ j < k by omega]
theorem mask_lt (p : Nat → Bool) (k : Nat) : maskOf p k < 2 ^ k := lt_bits fun i hi => by
 rw [mask_bit] at hi; simp at hi; exact hi.1
theorem sumTo_clr {az : List Int} {S i : Nat} (hb : S.testBit i = true) : ∀ k, sumTo az S k = sumTo az (S ^^^ 2 ^ i) k + if i < k then az.getD i 0 else 0
 | 0 => by simp [sumTo]
 | k + 1 => by
   rw [sumTo, sumTo, sumTo_clr hb k, clr_bit _ _ _ hb]
   by_cases e : i = k
   · subst e; simp [hb]
   · by_cases hlt : i < k
     · have h2 : i < k + 1 := by omega
       simp only [if_pos hlt, if_pos h2, e, decide_false, Bool.not_false, Bool.and_true]; omega
     · have h2 : ¬ i < k + 1 := by omega
       simp only [if_neg hlt, if_neg h2, e, decide_false, Bool.not_false, Bool.and_true]; omega
theorem sumB_clr {az : List Int} {S i : Nat} (hb : S.testBit i = true) (hi : i < az.length) : sumB az S = sumB az (S ^^^ 2 ^ i) + az.getD i 0 := by
 unfold sumB; rw [sumTo_clr hb, if_pos hi]
theorem sumB_zero (az : List Int) : sumB az 0 = 0 := by
 unfold sumB
 generalize az.length = k
 induction k with
 | zero => rfl
 | succ k ih => rw [sumTo, ih]; simp
end Go.Proofs.YtjpdaapjnpdiiaaGreat.P
namespace Go.Proofs.YtjpdaapjnpdiiaaGreat.P
def posAt : List Share → Int → Int
 | [], _ => 0
 | x :: r, v => (if x.o = v then x.a else 0) + posAt r v
def bal : List Tfer → Int → Int
 | [], _ => 0
 | x :: r, v => ((if x.t = v then x.a else 0) - (if x.f = v then x.a else 0)) + bal r v
def okO (n : Int) : Prop := 1 ≤ n ∧ n ≤ 8
instance (n : Int) : Decidable (okO n) := by unfold okO; infer_instance
def opsL : List Int := [1, 2, 3, 4, 5, 6, 7, 8]
theorem mem_ops {v : Int} : v ∈ opsL ↔ okO v := by
 unfold opsL okO
 simp
 omega
def col : List Tfer → Int → Int
 | [], v => v
 | x :: r, v => if col r v = col r x.f then col r x.t else col r v
theorem col_edge : ∀ {t : List Tfer} {x : Tfer}, x ∈ t → col t x.f = col t x.t
 | [], x, h => by simp at h
 | y :: r, x, h => by
   rcases List.mem_cons.1 h with rfl | h
   · simp [col]
   · have := col_edge h
     simp [col, this]
def csum (c : Int → Int) (q : Int) (f : Int → Int) : List Int → Int
 | [] => 0
 | v :: r => (if c v = q then f v else 0) + csum c q f r
theorem csum_add (c : Int → Int) (q : Int) (f g : Int → Int) : ∀ L, csum c q (fun v => f v + g v) L = csum c q f L + csum c q g L
 | [] => rfl
 | v :: r => by
   simp only [csum, csum_add c q f g r]
   split <;> omega
theorem csum_sub (c : Int → Int) (q : Int) (f g : Int → Int) : ∀ L, csum c q (fun v => f v - g v) L = csum c q f L - csum c q g L
 | [] => rfl
 | v :: r => by
   simp only [csum, csum_sub c q f g r]
   split <;> omega
theorem csum_none (c : Int → Int) (q u a : Int) : ∀ L, u ∉ L → csum c q (fun v => if u = v then a else 0) L = 0
 | [], _ => rfl
 | v :: r, h => by
   simp only [List.mem_cons, not_or] at h
   rw [csum, csum_none c q u a r h.2, if_neg h.1]
   simp
theorem csum_one (c : Int → Int) (q u a : Int) : ∀ L, L.Nodup → u ∈ L → csum c q (fun v => if u = v then a else 0) L = if c u = q then a else 0
 | [], _, h => by simp at h
 | v :: r, hn, h => by
   obtain ⟨h1, h2⟩ := List.nodup_cons.1 hn
   rw [csum]
   rcases List.mem_cons.1 h with rfl | h
   · rw [csum_none c q u a r h1, if_pos rfl]; omega
   · rw [csum_one c q u a r h2 h, if_neg (fun e : u = v => h1 (by rw [← e]; exact h))]
     simp
theorem ops_nodup : opsL.Nodup := by decide
theorem csum_zero (c : Int → Int) (q : Int) : ∀ L, csum c q (fun _ => 0) L = 0
 | [] => rfl
 | v :: r => by rw [csum, csum_zero c q r]; simp
theorem csum_bal {c : Int → Int} (q : Int) : ∀ {t : List Tfer}, (∀ x ∈ t, okO x.f ∧ okO x.t) → (∀ x ∈ t, c x.f = c x.t) → csum c q (bal t) opsL = 0
 | [], _, _ => csum_zero c q opsL
 | x :: r, h1, h2 => by
   have e : bal (x :: r) = fun v => ((if x.t = v then x.a else 0) - (if x.f = v then x.a else 0)) + bal r v := rfl
   obtain ⟨o1, o2⟩ := h1 x (by simp)
   rw [e, csum_add, csum_sub, csum_bal q (fun y hy => h1 y (by simp [hy])) (fun y hy => h2 y (by simp [hy])), csum_one _ _ _ _ _ ops_nodup (mem_ops.2 o2), csum_one _ _ _ _ _ ops_nodup (mem_ops.2 o1), h2 x (by simp)]
   omega
def selS (p : Share → Bool) : List Share → Int
 | [] => 0
 | x :: r => (if p x then x.a else 0) + selS p r
theorem csum_pos {c : Int → Int} (q : Int) : ∀ {l : List Share}, (∀ x ∈ l, okO x.o) → csum c q (posAt l) opsL = selS (fun x => decide (c x.o = q)) l
 | [], _ => csum_zero c q opsL
 | x :: r, h => by
   have e : posAt (x :: r) = fun v => (if x.o = v then x.a else 0) + posAt r v := rfl
   rw [e, csum_add, csum_pos q (fun y hy => h y (by simp [hy])), csum_one _ _ _ _ _ ops_nodup (mem_ops.2 (h x (by simp)))]
   simp [selS]
theorem csum_congr {c : Int → Int} {q : Int} {f g : Int → Int} : ∀ {L : List Int}, (∀ v ∈ L, f v = g v) → csum c q f L = csum c q g L
 | [], _ => rfl
 | v :: r, h => by rw [csum, csum, h v (by simp), csum_congr fun w hw => h w (by simp [hw])]
def Settles (t : List Tfer) (l : List Share) : Prop := ∀ v, okO v → bal t v = posAt l v
theorem class_zero {t : List Tfer} {l : List Share} (ht : ∀ x ∈ t, okO x.f ∧ okO x.t) (hl : ∀ x ∈ l, okO x.o) (hs : Settles t l) (q : Int) : selS (fun x => decide (col t x.o = q)) l = 0 := by
 rw [← csum_pos q hl, ← csum_congr (f := bal t) (fun v hv => hs v (mem_ops.1 hv))]
 exact csum_bal q ht fun x hx => col_edge hx
theorem selS_or {p q : Share → Bool} : ∀ {l : List Share}, (∀ x, ¬ (p x = true ∧ q x = true)) → selS (fun x => p x || q x) l = selS p l + selS q l
 | [], _ => rfl
 | x :: r, h => by
   have hx := h x
   rw [selS, selS, selS, selS_or (l := r) h]
   by_cases hp : p x = true
   · by_cases hq : q x = true
     · exact absurd ⟨hp, hq⟩ hx
     · simp [hp, hq]; omega
   · by_cases hq : q x = true
     · simp [hp, hq]; omega
     · simp [hp, hq]
theorem classes_zero {t : List Tfer} {l : List Share} (ht : ∀ x ∈ t, okO x.f ∧ okO x.t) (hl : ∀ x ∈ l, okO x.o) (hs : Settles t l) : ∀ {qs : List Int}, qs.Nodup → selS (fun x => decide (col t x.o ∈ qs)) l = 0
 | [], _ => by
   have : ∀ l : List Share, selS (fun x => decide (col t x.o ∈ ([] : List Int))) l = 0 := by
     intro l
     induction l with
     | nil => rfl
     | cons x r ih => rw [selS, ih]; simp
   exact this l
 | q :: r, hn => by
   obtain ⟨h1, h2⟩ := List.nodup_cons.1 hn
   have e : (fun x : Share => decide (col t x.o ∈ q :: r)) = fun x => decide (col t x.o = q) || decide (col t x.o ∈ r) := by
     funext x; simp [List.mem_cons]
   rw [e, selS_or (fun x ⟨a, b⟩ => by simp at a b; rw [a] at b; exact h1 b), class_zero ht hl hs q, classes_zero ht hl hs h2]
   rfl
def pIdx (p : Share → Bool) (l : List Share) (i : Nat) : Bool := match l[i]? with
 | some x => p x
 | none => false
theorem selS_snoc (p : Share → Bool) (x : Share) : ∀ l, selS p (l ++ [x]) = selS p l + if p x then x.a else 0
 | [] => by simp [selS]
 | y :: r => by simp only [List.cons_append, selS, selS_snoc p x r]; omega
theorem sum_mask (p : Share → Bool) (l : List Share) : ∀ k, k ≤ l.length → sumTo (amt l) (maskOf (pIdx p l) l.length) k = selS p (l.take k)
 | 0, _ => by simp [sumTo, selS]
 | k + 1, h => by
   obtain ⟨x, hx⟩ := getElem_some (xs := l) (k := k) (by omega)
   rw [sumTo, sum_mask p l k (by omega), take_snoc l k x hx, selS_snoc, mask_bit]
   have h1 : (amt l).getD k 0 = x.a := by simp [amt, hx]
   have h2 : pIdx p l k = p x := by simp [pIdx, hx]
   rw [h1, h2, show decide (k < l.length) = true by simp; omega]
   simp
theorem sumB_mask (p : Share → Bool) (l : List Share) : sumB (amt l) (maskOf (pIdx p l) l.length) = selS p l := by
 unfold sumB
 rw [show (amt l).length = l.length by simp [amt], sum_mask p l l.length (Nat.le_refl _), List.take_of_length_le (Nat.le_refl _)]
theorem chain {t : List Tfer} {l : List Share} (ht : ∀ x ∈ t, okO x.f ∧ okO x.t) (hl : ∀ x ∈ l, okO x.o) (hs : Settles t l) (h8 : l.length ≤ 8) :
   ∀ {qs : List Int}, qs.Nodup → (∀ q ∈ qs, ∃ x ∈ l, col t x.o = q) → qs.length ≤ mostB (amt l) (maskOf (pIdx (fun x => decide (col t x.o ∈ qs)) l) l.length)
 | [], _, _ => Nat.zero_le _
 | q :: r, hn, hh => by
   obtain ⟨h1, h2⟩ := List.nodup_cons.1 hn
   have ih := chain ht hl hs h8 h2 fun q' hq' => hh q' (by simp [hq'])
   obtain ⟨x, hx, hxq⟩ := hh q (by simp)
   obtain ⟨i, hi⟩ := List.getElem?_of_mem hx
   have hlt := (List.getElem?_eq_some_iff.1 hi).1
   have hle : (amt l).length = l.length := by simp [amt]
   have := most_more (az := amt l) (by rw [hle]; exact h8) (S := maskOf (pIdx (fun x => decide (col t x.o ∈ q :: r)) l) l.length) (T := maskOf (pIdx (fun x => decide (col t x.o ∈ r)) l) l.length)
     (by rw [hle]; exact mask_lt _ _) (fun j hj => by
       rw [mask_bit] at hj ⊢
       simp only [Bool.and_eq_true] at hj ⊢
       refine ⟨hj.1, ?_⟩
       have := hj.2
       unfold pIdx at this ⊢
       split at this
       · simp at this ⊢; exact .inr this
       · cases this) (fun e => by
       have h3 := mask_bit (pIdx (fun x => decide (col t x.o ∈ r)) l) l.length i
       have h4 := mask_bit (pIdx (fun x => decide (col t x.o ∈ q :: r)) l) l.length i
       rw [e, h4] at h3
       simp only [pIdx, hi, hxq, hlt, decide_true, Bool.true_and, List.mem_cons, true_or] at h3
       exact h1 (by simpa using h3.symm)) (by rw [sumB_mask, classes_zero ht hl hs hn])
   simp only [List.length_cons]
   omega
theorem filter_len (q : Int) : ∀ {qs : List Int}, qs.Nodup → qs.length ≤ (qs.filter (fun x => decide (x ≠ q))).length + 1
 | [], _ => by simp
 | y :: r, hn => by
   obtain ⟨h1, h2⟩ := List.nodup_cons.1 hn
   by_cases e : y = q
   · subst e
     have : r.filter (fun x => decide (x ≠ y)) = r := List.filter_eq_self.2 fun x hx => by simp; rintro rfl; exact h1 hx
     simp only [List.filter_cons, ne_eq, not_true_eq_false, decide_false, Bool.false_eq_true, if_false]
     rw [show (fun x => decide (¬ x = y)) = fun x => decide (x ≠ y) from rfl, this]
     simp
   · have := filter_len q h2
     simp only [List.filter_cons, ne_eq, e, not_false_eq_true, decide_true, if_true, List.length_cons]
     simp only [ne_eq] at this
     omega
theorem colors {l : List Share} (hd : (l.map (·.o)).Nodup) : ∀ t : List Tfer, ∃ qs : List Int, qs.Nodup ∧ l.length ≤ qs.length + t.length ∧ ∀ q ∈ qs, ∃ x ∈ l, col t x.o = q
 | [] => ⟨l.map (·.o), hd, by simp, fun q hq => by
     obtain ⟨x, hx, rfl⟩ := List.mem_map.1 hq
     exact ⟨x, hx, rfl⟩⟩
 | x :: r => by
   obtain ⟨qs, h1, h2, h3⟩ := colors hd r
   refine ⟨qs.filter (fun y => decide (y ≠ col r x.f)), h1.filter _, ?_, fun q hq => ?_⟩
   · have := filter_len (col r x.f) h1
     simp only [List.length_cons]
     omega
   · obtain ⟨h4, h5⟩ := List.mem_filter.1 hq
     obtain ⟨y, hy, hyq⟩ := h3 q h4
     simp at h5
     exact ⟨y, hy, by rw [col, hyq, if_neg h5]⟩
def full (n : Nat) : Nat := 2 ^ n - 1
theorem full_bit (n i : Nat) : (full n).testBit i = decide (i < n) := Nat.testBit_two_pow_sub_one n i
theorem full_lt (n : Nat) : full n < 2 ^ n := by unfold full; have := Nat.two_pow_pos n; omega
theorem lower {t : List Tfer} {l : List Share} (ht : ∀ x ∈ t, okO x.f ∧ okO x.t) (hl : ∀ x ∈ l, okO x.o) (hd : (l.map (·.o)).Nodup) (h8 : l.length ≤ 8) (hs : Settles t l) : l.length ≤ t.length + mostB (amt l) (full l.length) := by
 obtain ⟨qs, h1, h2, h3⟩ := colors hd t
 have h4 := chain ht hl hs h8 h1 h3
 have hle : (amt l).length = l.length := by simp [amt]
 have h5 := most_mono (az := amt l) (by rw [hle]; exact h8) (full l.length) (maskOf (pIdx (fun x => decide (col t x.o ∈ qs)) l) l.length) (by rw [hle]; exact full_lt _) (fun j hj => by
   rw [mask_bit] at hj
   simp only [Bool.and_eq_true] at hj
   rw [full_bit]; exact hj.1)
 omega
end Go.Proofs.YtjpdaapjnpdiiaaGreat.P
namespace Go.Proofs.YtjpdaapjnpdiiaaGreat.P
def firstI (p : Share → Bool) : List Share → Option (Nat × Share)
 | [] => none
 | x :: r => if p x then some (0, x) else match firstI p r with
   | some (i, y) => some (i + 1, y)
   | none => none
theorem firstI_get {p : Share → Bool} : ∀ {l : List Share} {i : Nat} {x : Share}, firstI p l = some (i, x) → l[i]? = some x ∧ p x = true
 | [], i, x, h => by simp [firstI] at h
 | y :: r, i, x, h => by
   rw [firstI] at h
   split at h
   · rename_i hp; cases h; exact ⟨rfl, hp⟩
   · split at h
     · rename_i j z hz
       cases h
       have := firstI_get hz
       simpa using this
     · cases h
theorem firstI_none {p : Share → Bool} : ∀ {l : List Share}, firstI p l = none → ∀ x ∈ l, p x = false
 | [], _, x, h => by simp at h
 | y :: r, hn, x, h => by
   rw [firstI] at hn
   split at hn
   · cases hn
   · rename_i hp
     split at hn
     · cases hn
     · rename_i hr
       rcases List.mem_cons.1 h with rfl | h
       · simpa using hp
       · exact firstI_none hr x h
def neg (x : Share) : Bool := decide (x.a < 0)
def pos' (x : Share) : Bool := decide (0 < x.a)
def stepS (g : List Share) : Option (Tfer × List Share) :=
 match firstI neg g, firstI pos' g with
 | some (i, x), some (j, y) => some (⟨x.o, y.o, min (-x.a) y.a⟩, (g.set i ⟨x.o, x.a + min (-x.a) y.a⟩).set j ⟨y.o, y.a - min (-x.a) y.a⟩)
 | _, _ => none
def settleF : Nat → List Share → List Tfer
 | 0, _ => []
 | f + 1, g => match stepS g with
   | some (t, g') => t :: settleF f g'
   | none => []
def nzc : List Share → Nat
 | [] => 0
 | x :: r => (if x.a = 0 then 0 else 1) + nzc r
theorem nzc_set {y : Share} : ∀ {g : List Share} {i : Nat} {x : Share}, g[i]? = some x → nzc (g.set i y) + (if x.a = 0 then 0 else 1) = nzc g + (if y.a = 0 then 0 else 1)
 | [], i, x, h => by simp at h
 | z :: r, 0, x, h => by simp at h; subst h; simp only [List.set_cons_zero, nzc]; omega
 | z :: r, i + 1, x, h => by
   have := nzc_set (y := y) (g := r) (i := i) (x := x) (by simpa using h)
   simp only [List.set_cons_succ, nzc]; omega
theorem sumA_set {y : Share} : ∀ {g : List Share} {i : Nat} {x : Share}, g[i]? = some x → sumA (g.set i y) + x.a = sumA g + y.a
 | [], i, x, h => by simp at h
 | z :: r, 0, x, h => by simp at h; subst h; simp only [List.set_cons_zero, sumA, amt, List.map_cons, List.sum_cons]; omega
 | z :: r, i + 1, x, h => by
   have := sumA_set (y := y) (g := r) (i := i) (x := x) (by simpa using h)
   simp only [sumA, amt, List.set_cons_succ, List.map_cons, List.sum_cons] at this ⊢; omega
theorem posAt_set {y : Share} (v : Int) : ∀ {g : List Share} {i : Nat} {x : Share}, g[i]? = some x → posAt (g.set i y) v + (if x.o = v then x.a else 0) = posAt g v + (if y.o = v then y.a else 0)
 | [], i, x, h => by simp at h
 | z :: r, 0, x, h => by simp at h; subst h; simp only [List.set_cons_zero, posAt]; omega
 | z :: r, i + 1, x, h => by
   have := posAt_set (y := y) v (g := r) (i := i) (x := x) (by simpa using h)
   simp only [List.set_cons_succ, posAt]; omega
structure Grp (g : List Share) : Prop where
 ok : ∀ x ∈ g, okS x
 sum : sumA g = 0
 len : g.length ≤ 8
theorem stepS_spec {g : List Share} {t : Tfer} {g' : List Share} (hg : Grp g) (hd : (g.map (·.o)).Nodup) (h : stepS g = some (t, g')) :
   Grp g' ∧ (g'.map (·.o)).Nodup ∧ nzc g' + 1 ≤ nzc g ∧ 2 ≤ nzc g ∧ (∀ v, posAt g v = (if t.t = v then t.a else 0) - (if t.f = v then t.a else 0) + posAt g' v) ∧ okO t.f ∧ okO t.t ∧ t.f ≠ t.t ∧ 1 ≤ t.a ∧ t.a ≤ 137438953472 := by
 unfold stepS at h
 split at h
 · rename_i i x j y h1 h2
   cases h
   obtain ⟨g1, p1⟩ := firstI_get h1
   obtain ⟨g2, p2⟩ := firstI_get h2
   simp only [neg, pos', decide_eq_true_eq] at p1 p2
   have hij : j ≠ i := fun e => by subst e; rw [g1] at g2; cases g2; omega
   have hox := hg.ok x (List.mem_of_getElem? g1)
   have hoy := hg.ok y (List.mem_of_getElem? g2)
   unfold okS at hox hoy
   have hi := (List.getElem?_eq_some_iff.1 g1).1
   have hj := (List.getElem?_eq_some_iff.1 g2).1
   have hne : x.o ≠ y.o := fun e => by
     have e1 : (g.map (·.o))[i]? = some x.o := by rw [List.getElem?_map, g1]; rfl
     have e2 : (g.map (·.o))[j]? = some y.o := by rw [List.getElem?_map, g2]; rfl
     rw [← e] at e2
     have hi' : i < (g.map (·.o)).length := by simpa using hi
     have := (List.getElem?_inj hi' hd).1 (e1.trans e2.symm)
     exact hij this.symm
   have g3 : (g.set i ⟨x.o, x.a + min (-x.a) y.a⟩)[j]? = some y := by rw [List.getElem?_set_ne (Ne.symm hij)]; exact g2
   have s1 := sumA_set (y := ⟨x.o, x.a + min (-x.a) y.a⟩) g1
   have s2 := sumA_set (y := ⟨y.o, y.a - min (-x.a) y.a⟩) g3
   have n1 := nzc_set (y := ⟨x.o, x.a + min (-x.a) y.a⟩) g1
   have n2 := nzc_set (y := ⟨y.o, y.a - min (-x.a) y.a⟩) g3
   dsimp only at s1 s2 n1 n2
   have hnx : ¬ x.a = 0 := by omega
   have hny : ¬ y.a = 0 := by omega
   rw [if_neg hnx] at n1
   rw [if_neg hny] at n2
   have hs := hg.sum
   refine ⟨⟨fun z hz => ?_, by omega, by simpa using hg.len⟩, ?_, ?_, ?_, fun v => ?_, ?_, ?_, hne, ?_, ?_⟩
   · rcases List.mem_or_eq_of_mem_set hz with hz | rfl
     · rcases List.mem_or_eq_of_mem_set hz with hz | rfl
       · exact hg.ok z hz
       · exact ⟨hox.1, by dsimp only; omega, by dsimp only; omega⟩
     · exact ⟨hoy.1, by dsimp only; omega, by dsimp only; omega⟩
   · have : ((g.set i ⟨x.o, x.a + min (-x.a) y.a⟩).set j ⟨y.o, y.a - min (-x.a) y.a⟩).map (·.o) = g.map (·.o) := by
       apply List.ext_getElem?
       intro k
       rw [List.getElem?_map, List.getElem?_map]
       by_cases e1 : j = k
       · subst e1; rw [List.getElem?_set_self (by simpa using hj), g2]; rfl
       · rw [List.getElem?_set_ne e1]
         by_cases e2 : i = k
         · subst e2; rw [List.getElem?_set_self hi, g1]; rfl
         · rw [List.getElem?_set_ne e2]
     rw [this]; exact hd
   · split at n1 <;> split at n2 <;> omega
   · have g4 : (g.set i ⟨0, 0⟩)[j]? = some y := by rw [List.getElem?_set_ne (Ne.symm hij)]; exact g2
     have m1 := nzc_set (y := ⟨0, 0⟩) g1
     have m2 := nzc_set (y := ⟨0, 0⟩) g4
     rw [if_neg hnx, if_pos rfl] at m1
     rw [if_neg hny, if_pos rfl] at m2
     omega
   · have q1 := posAt_set (y := ⟨x.o, x.a + min (-x.a) y.a⟩) v g1
     have q2 := posAt_set (y := ⟨y.o, y.a - min (-x.a) y.a⟩) v g3
     dsimp only at q1 q2 ⊢
     by_cases e1 : x.o = v
     · by_cases e2 : y.o = v
       · exact absurd (e1.trans e2.symm) hne
       · simp only [if_pos e1, if_neg e2] at q1 q2 ⊢; omega
     · by_cases e2 : y.o = v
       · simp only [if_neg e1, if_pos e2] at q1 q2 ⊢; omega
       · simp only [if_neg e1, if_neg e2] at q1 q2 ⊢; omega
   · exact hox.1
   · exact hoy.1
   · dsimp only; omega
   · dsimp only; omega
 · cases h
theorem sum_nonneg : ∀ {l : List Share}, (∀ x ∈ l, 0 ≤ x.a) → 0 ≤ sumA l ∧ (sumA l = 0 → ∀ x ∈ l, x.a = 0)
 | [], _ => by simp [sumA, amt]
 | x :: r, h => by
   obtain ⟨h1, h2⟩ := sum_nonneg (l := r) fun y hy => h y (by simp [hy])
   have h0 := h x (by simp)
   have e : sumA (x :: r) = x.a + sumA r := by simp [sumA, amt]
   rw [e]
   refine ⟨by omega, fun hs y hy => ?_⟩
   rcases List.mem_cons.1 hy with rfl | hy
   · omega
   · exact h2 (by omega) y hy
theorem sum_nonpos : ∀ {l : List Share}, (∀ x ∈ l, x.a ≤ 0) → sumA l ≤ 0 ∧ (sumA l = 0 → ∀ x ∈ l, x.a = 0)
 | [], _ => by simp [sumA, amt]
 | x :: r, h => by
   obtain ⟨h1, h2⟩ := sum_nonpos (l := r) fun y hy => h y (by simp [hy])
   have h0 := h x (by simp)
   have e : sumA (x :: r) = x.a + sumA r := by simp [sumA, amt]
   rw [e]
   refine ⟨by omega, fun hs y hy => ?_⟩
   rcases List.mem_cons.1 hy with rfl | hy
   · omega
   · exact h2 (by omega) y hy
theorem stepS_none {g : List Share} (hg : Grp g) (h : stepS g = none) : ∀ x ∈ g, x.a = 0 := by
 unfold stepS at h
 split at h
 · cases h
 · rename_i hh
   cases h1 : firstI neg g with
   | none =>
     have := firstI_none h1
     exact (sum_nonneg fun x hx => by have := this x hx; simp [neg] at this; exact this).2 hg.sum
   | some p =>
     cases h2 : firstI pos' g with
     | none =>
       have := firstI_none h2
       exact (sum_nonpos fun x hx => by have := this x hx; simp [pos'] at this; exact this).2 hg.sum
     | some q => exact absurd h2 (by obtain ⟨i, x⟩ := p; obtain ⟨j, y⟩ := q; exact fun h => hh i x j y h1 h)
def okT (x : Tfer) : Prop := okO x.f ∧ okO x.t ∧ x.f ≠ x.t ∧ 1 ≤ x.a ∧ x.a ≤ 137438953472
theorem posAt_zero : ∀ {g : List Share}, (∀ x ∈ g, x.a = 0) → ∀ v, posAt g v = 0
 | [], _, _ => rfl
 | x :: r, h, v => by rw [posAt, posAt_zero (fun y hy => h y (by simp [hy])), h x (by simp)]; simp
theorem settleF_spec : ∀ (f : Nat) (g : List Share), Grp g → (g.map (·.o)).Nodup → nzc g < f → (∀ x ∈ settleF f g, okT x) ∧ (∀ v, bal (settleF f g) v = posAt g v) ∧ (settleF f g).length ≤ nzc g - 1
 | 0, g, _, _, h => by omega
 | f + 1, g, hg, hd, h => by
   rw [settleF]
   cases hs : stepS g with
   | none =>
     have h0 := stepS_none hg hs
     exact ⟨by simp, fun v => (posAt_zero h0 v).symm, by simp⟩
   | some p =>
     obtain ⟨t, g'⟩ := p
     obtain ⟨h1, h2, h3, h4, h5, h6, h7, h8, h9, h10⟩ := stepS_spec hg hd hs
     obtain ⟨i1, i2, i3⟩ := settleF_spec f g' h1 h2 (by omega)
     refine ⟨fun x hx => ?_, fun v => ?_, ?_⟩
     · rcases List.mem_cons.1 hx with rfl | hx
       · exact ⟨h6, h7, h8, h9, h10⟩
       · exact i1 x hx
     · rw [bal, i2 v, h5 v]
     · simp only [List.length_cons]; omega
theorem nzc_le : ∀ g : List Share, nzc g ≤ g.length
 | [] => Nat.le_refl _
 | x :: r => by have := nzc_le r; rw [nzc, List.length_cons]; split <;> omega
def settleG (g : List Share) : List Tfer := settleF 9 g
theorem settleG_step {g : List Share} (hg : Grp g) (hd : (g.map (·.o)).Nodup) {f : Nat} (hf : nzc g < f) : settleF f g = settleG g := by
 suffices ∀ (n : Nat) (g : List Share) (f f' : Nat), nzc g < n → Grp g → (g.map (·.o)).Nodup → nzc g < f → nzc g < f' → settleF f g = settleF f' g from
   this (nzc g + 1) g f 9 (by omega) hg hd hf (by have := nzc_le g; have := hg.len; omega)
 intro n
 induction n with
 | zero => intro g f f' h; omega
 | succ n ih =>
   intro g f f' hn hg hd hf hf'
   obtain ⟨f, rfl⟩ : ∃ k, f = k + 1 := ⟨f - 1, by omega⟩
   obtain ⟨f', rfl⟩ : ∃ k, f' = k + 1 := ⟨f' - 1, by omega⟩
   rw [settleF, settleF]
   cases hs : stepS g with
   | none => rfl
   | some p =>
     obtain ⟨t, g'⟩ := p
     obtain ⟨h1, h2, h3, _⟩ := stepS_spec hg hd hs
     simp only
     rw [ih g' f f' (by omega) h1 h2 (by omega) (by omega)]
end Go.Proofs.YtjpdaapjnpdiiaaGreat.P
namespace Go.Proofs.YtjpdaapjnpdiiaaGreat.P
def nzl (l : List Share) : List Share := l.filter fun x => decide (x.a ≠ 0)
def pickP (az : List Int) (S i : Nat) : Bool := S.testBit i && decide (mostB az (S ^^^ 2 ^ i) = mostB az S - zB az S)
def pick (az : List Int) (S : Nat) : Nat := ((List.range az.length).find? (pickP az S)).getD 0
theorem pick_of {az : List Int} {S i : Nat} (hi : i < az.length) (h : pickP az S i = true) (hn : ∀ j, j < i → pickP az S j = false) : pick az S = i := by
 unfold pick
 rw [List.find?_range_eq_some.2 ⟨h, List.mem_range.2 hi, fun j hj => by rw [hn j hj]; rfl⟩]
 rfl
theorem pick_ex {az : List Int} (hn : az.length ≤ 8) {S : Nat} (hS : S < 2 ^ az.length) (h0 : S ≠ 0) : ∃ i, i < az.length ∧ pickP az S i = true ∧ ∀ j, j < i → pickP az S j = false := by
 obtain ⟨i, h1, h2, h3⟩ := most_ex hn hS h0
 have hp : pickP az S i = true := by
   unfold pickP
   rw [h2, show mostB az (S ^^^ 2 ^ i) = mostB az S - zB az S by omega]
   simp
 have : ∀ m, (∀ j, j < m → pickP az S j = false) ∨ ∃ i, i < m ∧ pickP az S i = true ∧ ∀ j, j < i → pickP az S j = false := by
   intro m
   induction m with
   | zero => exact .inl fun j hj => by omega
   | succ m ih =>
     rcases ih with ih | ⟨i, q1, q2⟩
     · cases hm : pickP az S m with
       | true => exact .inr ⟨m, by omega, hm, ih⟩
       | false =>
         refine .inl fun j hj => ?_
         by_cases e : j = m
         · subst e; exact hm
         · exact ih j (by omega)
     · exact .inr ⟨i, by omega, q2⟩
 rcases this az.length with h | h
 · rw [h i h1] at hp; cases hp
 · exact h
structure PS where
 S : Nat
 G : List Share
 O : List Tfer
def stepN (l : List Share) (s : PS) : PS :=
 if sumB (amt l) (s.S ^^^ 2 ^ pick (amt l) s.S) = 0 then ⟨s.S ^^^ 2 ^ pick (amt l) s.S, [], s.O ++ settleG (s.G ++ (l[pick (amt l) s.S]?).toList)⟩
 else ⟨s.S ^^^ 2 ^ pick (amt l) s.S, s.G ++ (l[pick (amt l) s.S]?).toList, s.O⟩
def pathN (l : List Share) : Nat → PS → PS
 | 0, s => s
 | f + 1, s => if s.S = 0 then s else pathN l f (stepN l s)
def netO (l : List Share) : List Tfer := (pathN l 256 ⟨full l.length, [], []⟩).O
def cardTo (S : Nat) : Nat → Nat
 | 0 => 0
 | k + 1 => cardTo S k + if S.testBit k then 1 else 0
theorem cardTo_clr {S i : Nat} (hb : S.testBit i = true) : ∀ k, cardTo S k = cardTo (S ^^^ 2 ^ i) k + if i < k then 1 else 0
 | 0 => by simp [cardTo]
 | k + 1 => by
   rw [cardTo, cardTo, cardTo_clr hb k, clr_bit _ _ _ hb]
   by_cases e : i = k
   · subst e; simp [hb]
   · by_cases hlt : i < k
     · have h2 : i < k + 1 := by omega
       simp only [if_pos hlt, if_pos h2, e, decide_false, Bool.not_false, Bool.and_true]; omega
     · have h2 : ¬ i < k + 1 := by omega
       simp only [if_neg hlt, if_neg h2, e, decide_false, Bool.not_false, Bool.and_true]; omega
theorem cardTo_full (n : Nat) : ∀ k, k ≤ n → cardTo (full n) k = k
 | 0, _ => rfl
 | k + 1, h => by rw [cardTo, cardTo_full n k (by omega), full_bit]; simp; omega
theorem cardTo_zero : ∀ k, cardTo 0 k = 0
 | 0 => rfl
 | k + 1 => by rw [cardTo, cardTo_zero k]; simp
def vec (l : List Share) (v : Int) : List Int := l.map fun x => if x.o = v then x.a else 0
theorem sumTo_full (az : List Int) : ∀ k, k ≤ az.length → sumTo az (full az.length) k = (az.take k).sum
 | 0, _ => rfl
 | k + 1, h => by
   obtain ⟨x, hx⟩ := getElem_some (xs := az) (k := k) (by omega)
   rw [sumTo, sumTo_full az k (by omega), full_bit, take_snoc az k x hx, sum_snoc]
   have h1 : k < az.length := by omega
   simp [h1]
   rw [show az[k] = x from by rw [List.getElem?_eq_getElem h1] at hx; exact Option.some.inj hx]
theorem sumB_full (az : List Int) : sumB az (full az.length) = az.sum := by
 unfold sumB; rw [sumTo_full az _ (Nat.le_refl _), List.take_of_length_le (Nat.le_refl _)]
theorem vec_sum (v : Int) : ∀ l : List Share, (vec l v).sum = posAt l v
 | [] => rfl
 | x :: r => by have := vec_sum v r; simp only [vec, List.map_cons, List.sum_cons, posAt] at this ⊢; omega
theorem posAt_snoc (v : Int) (x : Share) : ∀ l, posAt (l ++ [x]) v = posAt l v + if x.o = v then x.a else 0
 | [] => by simp [posAt]
 | y :: r => by simp only [List.cons_append, posAt, posAt_snoc v x r]; omega
theorem bal_app (v : Int) (b : List Tfer) : ∀ a, bal (a ++ b) v = bal a v + bal b v
 | [] => by simp [bal]
 | y :: r => by simp only [List.cons_append, bal, bal_app v b r]; omega
structure Nz (l : List Share) : Prop where
 len : l.length ≤ 8
 ok : ∀ x ∈ l, okS x
 nz : ∀ x ∈ l, x.a ≠ 0
 dis : (l.map (·.o)).Nodup
 sum : sumA l = 0
structure InvN (l : List Share) (s : PS) : Prop where
 lt : s.S < 2 ^ l.length
 okO : ∀ x ∈ s.O, okT x
 mem : ∀ x ∈ s.G, ∃ i, l[i]? = some x ∧ s.S.testBit i = false
 dis : (s.G.map (·.o)).Nodup
 sum : sumA s.G + sumB (amt l) s.S = 0
 bal : ∀ v, bal s.O v + posAt s.G v + sumB (vec l v) s.S = posAt l v
 cnt : s.O.length + s.G.length + cardTo s.S l.length + mostB (amt l) (full l.length) ≤ l.length + mostB (amt l) s.S + if s.G = [] then 0 else 1
 zero : s.G = [] ↔ sumB (amt l) s.S = 0
theorem Nz.idx {l : List Share} (h : Nz l) {i j : Nat} {x y : Share} (hi : l[i]? = some x) (hj : l[j]? = some y) (e : x.o = y.o) : i = j := by
 have e1 : (l.map (·.o))[i]? = some x.o := by rw [List.getElem?_map, hi]; rfl
 have e2 : (l.map (·.o))[j]? = some y.o := by rw [List.getElem?_map, hj]; rfl
 rw [← e] at e2
 exact (List.getElem?_inj (by simpa using (List.getElem?_eq_some_iff.1 hi).1) h.dis).1 (e1.trans e2.symm)
theorem InvN.start {l : List Share} (h : Nz l) : InvN l ⟨full l.length, [], []⟩ := by
 have hle : (amt l).length = l.length := by simp [amt]
 have hz : sumB (amt l) (full l.length) = 0 := by rw [← hle, sumB_full]; exact h.sum
 refine ⟨full_lt _, by simp, by simp, by simp, ?_, fun v => ?_, ?_, ?_⟩
 · show sumA [] + _ = 0
   rw [hz]; rfl
 · have : (vec l v).length = l.length := by simp [vec]
   show (0 : Int) + 0 + sumB (vec l v) (full l.length) = _
   rw [← this, sumB_full, vec_sum]; omega
 · show 0 + 0 + cardTo (full l.length) l.length + _ ≤ _
   rw [cardTo_full _ _ (Nat.le_refl _)]; simp
 · simp [hz]
theorem InvN.step {l : List Share} (h : Nz l) {s : PS} (hi : InvN l s) {i : Nat} {x : Share} (hx : l[i]? = some x) (hp : pickP (amt l) s.S i = true) :
   Grp (s.G ++ [x]) ∨ sumB (amt l) (s.S ^^^ 2 ^ i) ≠ 0 := by
 have hb : s.S.testBit i = true := by unfold pickP at hp; simp at hp; exact hp.1
 have hle : (amt l).length = l.length := by simp [amt]
 have hil := (List.getElem?_eq_some_iff.1 hx).1
 by_cases hz : sumB (amt l) (s.S ^^^ 2 ^ i) = 0
 · refine .inl ⟨fun y hy => ?_, ?_, ?_⟩
   · rcases List.mem_append.1 hy with hy | hy
     · obtain ⟨j, hj, _⟩ := hi.mem y hy
       exact h.ok y (List.mem_of_getElem? hj)
     · simp at hy; subst hy; exact h.ok y (List.mem_of_getElem? hx)
   · have h1 := hi.sum
     have h2 := sumB_clr (az := amt l) hb (by omega)
     have h3 : (amt l).getD i 0 = x.a := by simp [amt, hx]
     have h4 : sumA (s.G ++ [x]) = sumA s.G + x.a := by unfold sumA amt; rw [List.map_append]; exact sum_snoc _ _
     omega
   · have hsub : ∀ (G : List Share), (G.map (·.o)).Nodup → (∀ y ∈ G, ∃ j, l[j]? = some y ∧ s.S.testBit j = false) → G.length + cardTo s.S l.length ≤ l.length := by
       intro G
       have gen : ∀ (G : List Share) (T : Nat), (G.map (·.o)).Nodup → (∀ y ∈ G, ∃ j, l[j]? = some y ∧ T.testBit j = false) → G.length + cardTo T l.length ≤ l.length := by
         intro G
         induction G with
         | nil =>
           intro T _ _
           have : ∀ k, cardTo T k ≤ k := by
             intro k
             induction k with
             | zero => exact Nat.le_refl _
             | succ k ih => rw [cardTo]; split <;> omega
           simpa using this l.length
         | cons y r ih =>
           intro T hn hm
           obtain ⟨j, hj, hbj⟩ := hm y (by simp)
           have hjl := (List.getElem?_eq_some_iff.1 hj).1
           rw [List.map_cons] at hn
           obtain ⟨n1, n2⟩ := List.nodup_cons.1 hn
           have hT : (T ^^^ 2 ^ j).testBit j = true := by rw [Nat.testBit_xor, hbj, Nat.testBit_two_pow]; simp
           have := ih (T ^^^ 2 ^ j) n2 fun z hz => by
             obtain ⟨k, hk, hbk⟩ := hm z (by simp [hz])
             have hne : j ≠ k := fun e => by
               subst e
               rw [hj] at hk; cases hk
               exact n1 (List.mem_map.2 ⟨_, hz, rfl⟩)
             exact ⟨k, hk, by rw [Nat.testBit_xor, hbk, Nat.testBit_two_pow]; simp [hne]⟩
           have hc := cardTo_clr hT l.length
           rw [Nat.xor_assoc, Nat.xor_self, Nat.xor_zero, if_pos hjl] at hc
           simp only [List.length_cons]
           omega
       exact gen G s.S
     have h4 := hsub s.G hi.dis hi.mem
     have h5 := cardTo_clr hb l.length
     rw [if_pos hil] at h5
     have := h.len
     simp only [List.length_append, List.length_singleton]
     omega
 · exact .inr hz
theorem InvN.next {l : List Share} (h : Nz l) {s : PS} (hi : InvN l s) (h0 : s.S ≠ 0) : InvN l (stepN l s) ∧ (stepN l s).S < s.S := by
 have hle : (amt l).length = l.length := by simp [amt]
 have hlt := hi.lt
 have h256 := pow_le8 h.len
 obtain ⟨i, hil, hp, hpn⟩ := pick_ex (az := amt l) (by have := h.len; omega) (by rw [hle]; exact hlt) h0
 rw [hle] at hil
 have hpk := pick_of (by omega) hp hpn
 obtain ⟨x, hx⟩ := getElem_some hil
 have hb : s.S.testBit i = true := by unfold pickP at hp; simp at hp; exact hp.1
 have hm : mostB (amt l) (s.S ^^^ 2 ^ i) = mostB (amt l) s.S - zB (amt l) s.S := by unfold pickP at hp; simp at hp; exact hp.2
 have hm' := most_le (az := amt l) (by have := h.len; omega) (by rw [hle]; exact hlt) hb
 have hs := clr_lt (by omega) (by have := h.len; omega) hb
 have ha : (amt l).getD i 0 = x.a := by simp [amt, hx]
 have hsc := sumB_clr (az := amt l) hb (by omega)
 have hcc := cardTo_clr hb l.length
 rw [if_pos hil] at hcc
 have hxo : x.o ∉ s.G.map (·.o) := by
   intro hh
   obtain ⟨y, hy, e⟩ := List.mem_map.1 hh
   obtain ⟨j, hj, hbj⟩ := hi.mem y hy
   have := h.idx hj hx e
   subst this
   rw [hb] at hbj; cases hbj
 have hdis : ((s.G ++ [x]).map (·.o)).Nodup := by
   rw [List.map_append, List.nodup_append]
   exact ⟨hi.dis, by simp, fun a ha b hb => by simp at hb; subst hb; rintro rfl; exact hxo ha⟩
 have hvec : ∀ v, sumB (vec l v) s.S = sumB (vec l v) (s.S ^^^ 2 ^ i) + if x.o = v then x.a else 0 := fun v => by
   have h1 := sumB_clr (az := vec l v) hb (by simpa [vec] using hil)
   have h2 : (vec l v).getD i 0 = if x.o = v then x.a else 0 := by simp [vec, hx]
   omega
 have hsnoc : sumA (s.G ++ [x]) = sumA s.G + x.a := by unfold sumA amt; rw [List.map_append]; exact sum_snoc _ _
 have hcnt := hi.cnt
 have hsum := hi.sum
 have hz0 := hi.zero
 have hzb : zB (amt l) s.S = if s.G = [] then 1 else 0 := by
   unfold zB
   by_cases e : s.G = []
   · rw [if_pos e, if_pos (hz0.1 e)]
   · rw [if_neg e, if_neg (fun h => e (hz0.2 h))]
 have hcap := hi.step h hx hp
 unfold stepN
 rw [hpk, hx]
 simp only [Option.toList]
 split
 · rename_i hz
   have hg := hcap.resolve_right (fun h => h hz)
   obtain ⟨i1, i2, i3⟩ := settleF_spec 9 (s.G ++ [x]) hg hdis (by have := nzc_le (s.G ++ [x]); have := hg.len; omega)
   have hnz := nzc_le (s.G ++ [x])
   simp only [List.length_append, List.length_singleton] at hnz
   refine ⟨⟨by show s.S ^^^ 2 ^ i < 2 ^ l.length; omega, fun y hy => ?_, by simp, by simp, ?_, fun v => ?_, ?_, by simp [hz]⟩, hs⟩
   · rcases List.mem_append.1 hy with hy | hy
     · exact hi.okO y hy
     · exact i1 y hy
   · show sumA [] + _ = 0
     rw [hz]; rfl
   · have h1 := hi.bal v
     have h2 := hvec v
     have h3 := posAt_snoc v x s.G
     have h4 := i2 v
     show Go.Proofs.YtjpdaapjnpdiiaaGreat.P.bal (s.O ++ settleF 9 (s.G ++ [x])) v + 0 + sumB (vec l v) (s.S ^^^ 2 ^ i) = posAt l v
     rw [bal_app, h4]
     omega
   · show (s.O ++ settleF 9 (s.G ++ [x])).length + 0 + cardTo (s.S ^^^ 2 ^ i) l.length + mostB (amt l) (full l.length) ≤ l.length + mostB (amt l) (s.S ^^^ 2 ^ i) + if ([] : List Share) = [] then 0 else 1
     rw [List.length_append]
     by_cases e : s.G = []
     · simp only [e, if_true, List.nil_append, List.length_nil] at hcnt hzb i3 hnz ⊢; omega
     · simp only [e, if_false, if_true] at hcnt hzb ⊢; omega
 · rename_i hz
   refine ⟨⟨by show s.S ^^^ 2 ^ i < 2 ^ l.length; omega, hi.okO, fun y hy => ?_, hdis, ?_, fun v => ?_, ?_, ?_⟩, hs⟩
   · rcases List.mem_append.1 hy with hy | hy
     · obtain ⟨j, hj, hbj⟩ := hi.mem y hy
       refine ⟨j, hj, ?_⟩
       rw [clr_bit _ _ _ hb, hbj]; rfl
     · simp at hy
       subst hy
       exact ⟨i, hx, by rw [clr_bit _ _ _ hb]; simp⟩
   · show sumA (s.G ++ [x]) + sumB (amt l) (s.S ^^^ 2 ^ i) = 0
     omega
   · have h1 := hi.bal v
     have h2 := hvec v
     have h3 := posAt_snoc v x s.G
     show Go.Proofs.YtjpdaapjnpdiiaaGreat.P.bal s.O v + posAt (s.G ++ [x]) v + sumB (vec l v) (s.S ^^^ 2 ^ i) = posAt l v
     omega
   · have hne : s.G ++ [x] ≠ [] := by simp
     show s.O.length + (s.G ++ [x]).length + cardTo (s.S ^^^ 2 ^ i) l.length + mostB (amt l) (full l.length) ≤ l.length + mostB (amt l) (s.S ^^^ 2 ^ i) + if s.G ++ [x] = [] then 0 else 1
     rw [if_neg hne, List.length_append, List.length_singleton]
     by_cases e : s.G = []
     · simp only [e, if_true, List.length_nil] at hcnt hzb ⊢; omega
     · simp only [e, if_false] at hcnt hzb ⊢; omega
   · simp [hz]
theorem pathN_inv {l : List Share} (h : Nz l) : ∀ (f : Nat) (s : PS), InvN l s → s.S < f → InvN l (pathN l f s) ∧ (pathN l f s).S = 0
 | 0, s, _, hf => by omega
 | f + 1, s, hi, hf => by
   rw [pathN]
   split
   · exact ⟨hi, by assumption⟩
   · rename_i h0
     obtain ⟨h1, h2⟩ := hi.next h h0
     exact pathN_inv h f _ h1 (by omega)
theorem netO_spec {l : List Share} (h : Nz l) : (∀ x ∈ netO l, okT x) ∧ (∀ v, bal (netO l) v = posAt l v) ∧ (netO l).length + mostB (amt l) (full l.length) = l.length := by
 obtain ⟨h1, h2⟩ := pathN_inv h 256 ⟨full l.length, [], []⟩ (.start h) (by have := full_lt l.length; have := pow_le8 h.len; show full l.length < 256; omega)
 show (∀ x ∈ (pathN l 256 ⟨full l.length, [], []⟩).O, okT x) ∧ (∀ v, bal (pathN l 256 ⟨full l.length, [], []⟩).O v = posAt l v) ∧ (pathN l 256 ⟨full l.length, [], []⟩).O.length + _ = _
 generalize pathN l 256 ⟨full l.length, [], []⟩ = s at *
 obtain ⟨S, G, O⟩ := s
 dsimp only at h2 ⊢
 subst h2
 have hG : G = [] := h1.zero.2 (sumB_zero _)
 subst hG
 have hbal : ∀ v, bal O v = posAt l v := fun v => by
   have := h1.bal v
   dsimp only at this
   rw [sumB_zero] at this
   have h0 : posAt [] v = 0 := rfl
   omega
 have hc := h1.cnt
 simp only [List.length_nil, cardTo_zero, most_zero, if_true] at hc
 have := lower (t := O) (l := l) (fun x hx => ⟨(h1.okO x hx).1, (h1.okO x hx).2.1⟩) (fun x hx => (h.ok x hx).1) h.dis h.len fun v _ => hbal v
 exact ⟨h1.okO, hbal, by omega⟩
end Go.Proofs.YtjpdaapjnpdiiaaGreat.P
namespace Go.Proofs.YtjpdaapjnpdiiaaGreat.P
def keyLt (a b : Tfer) : Prop := a.f < b.f ∨ a.f = b.f ∧ a.t < b.t
instance (a b : Tfer) : Decidable (keyLt a b) := by unfold keyLt; infer_instance
def keyLe (a b : Tfer) : Bool := decide (¬ keyLt b a)
def netF (l : List Share) : List Tfer := (netO (nzl l)).mergeSort keyLe
def leastF (l : List Share) : Nat := (nzl l).length - mostB (amt (nzl l)) (full (nzl l).length)
theorem key_eq {a b : Tfer} (h1 : ¬ keyLt a b) (h2 : ¬ keyLt b a) : a.f = b.f ∧ a.t = b.t := by unfold keyLt at h1 h2; omega
def wgt (x : Tfer) (v : Int) : Int := (if x.t = v then x.a else 0) - (if x.f = v then x.a else 0)
theorem bal_set {y : Tfer} (v : Int) : ∀ {g : List Tfer} {i : Nat} {x : Tfer}, g[i]? = some x → bal (g.set i y) v + wgt x v = bal g v + wgt y v
 | [], i, x, h => by simp at h
 | z :: r, 0, x, h => by simp at h; subst h; simp only [List.set_cons_zero, bal, wgt]; omega
 | z :: r, i + 1, x, h => by
   have := bal_set (y := y) v (g := r) (i := i) (x := x) (by simpa using h)
   simp only [List.set_cons_succ, bal]; omega
theorem bal_erase (v : Int) : ∀ {g : List Tfer} {i : Nat} {x : Tfer}, g[i]? = some x → bal (g.eraseIdx i) v + wgt x v = bal g v
 | [], i, x, h => by simp at h
 | z :: r, 0, x, h => by simp at h; subst h; simp only [List.eraseIdx_cons_zero, bal, wgt]; omega
 | z :: r, i + 1, x, h => by
   have := bal_erase v (g := r) (i := i) (x := x) (by simpa using h)
   simp only [List.eraseIdx_cons_succ, bal]; omega
theorem bal_perm (v : Int) {a b : List Tfer} (h : a.Perm b) : bal a v = bal b v := by
 induction h with
 | nil => rfl
 | cons x _ ih => rw [bal, bal, ih]
 | swap x y l => simp only [bal]; omega
 | trans _ _ ih1 ih2 => exact ih1.trans ih2
theorem apart {l : List Share} (h : Nz l) {t : List Tfer} (ht : ∀ x ∈ t, okT x) (hb : ∀ v, bal t v = posAt l v) (hl : t.length + mostB (amt l) (full l.length) = l.length) {i j : Nat} {x y : Tfer} (hij : i < j) (hx : t[i]? = some x) (hy : t[j]? = some y) :
   ¬ (x.f = y.f ∧ x.t = y.t) := by
 rintro ⟨e1, e2⟩
 have hj := (List.getElem?_eq_some_iff.1 hy).1
 have hy' : (t.set i ⟨x.f, x.t, x.a + y.a⟩)[j]? = some y := by rw [List.getElem?_set_ne (by omega)]; exact hy
 have hlen : ((t.set i ⟨x.f, x.t, x.a + y.a⟩).eraseIdx j).length = t.length - 1 := by
   rw [List.length_eraseIdx_of_lt (by simpa using hj)]; simp
 have := lower (t := (t.set i ⟨x.f, x.t, x.a + y.a⟩).eraseIdx j) (l := l) (fun z hz => by
   rcases List.mem_or_eq_of_mem_set (List.mem_of_mem_eraseIdx hz) with hz | rfl
   · exact ⟨(ht z hz).1, (ht z hz).2.1⟩
   · exact ⟨(ht x (List.mem_of_getElem? hx)).1, (ht x (List.mem_of_getElem? hx)).2.1⟩) (fun x hx => (h.ok x hx).1) h.dis h.len (fun v _ => by
   have h1 := bal_set (y := ⟨x.f, x.t, x.a + y.a⟩) v hx
   have h2 := bal_erase v hy'
   have h3 := hb v
   have h4 : wgt ⟨x.f, x.t, x.a + y.a⟩ v = wgt x v + wgt y v := by
     unfold wgt
     dsimp only
     rw [← e1, ← e2]
     split <;> split <;> omega
   omega)
 omega
theorem nzl_nz {l : List Share} (h : RightP l) : Nz (nzl l) := by
 refine ⟨Nat.le_trans (List.length_filter_le _ _) h.len, fun x hx => h.ok x (List.mem_filter.1 hx).1, fun x hx => by have := (List.mem_filter.1 hx).2; simpa using this, ?_, ?_⟩
 · have : (nzl l).Pairwise fun a b => a.o < b.o := h.inc.filter _
   rw [List.Nodup, List.pairwise_map]
   exact this.imp fun h e => by omega
 · have : ∀ l, sumA (nzl l) = sumA l := by
     intro l
     induction l with
     | nil => rfl
     | cons x r ih =>
       have e : sumA (x :: r) = x.a + sumA r := by simp [sumA, amt]
       unfold nzl at ih ⊢
       rw [List.filter_cons]
       split
       · have e2 : ∀ l, sumA (x :: l) = x.a + sumA l := fun l => by simp [sumA, amt]
         rw [e2, ih, e]
       · rename_i hx
         have : x.a = 0 := by simpa using hx
         rw [ih, e]; omega
   rw [this]; exact h.sum
theorem posAt_nzl (v : Int) : ∀ l, posAt (nzl l) v = posAt l v
 | [] => rfl
 | x :: r => by
   have ih := posAt_nzl v r
   unfold nzl at ih ⊢
   rw [List.filter_cons]
   split
   · rw [posAt, posAt, ih]
   · rename_i hx
     have : x.a = 0 := by simpa using hx
     rw [posAt, ih, this]; simp
structure NetP (l : List Share) (t : List Tfer) : Prop where
 ok : ∀ x ∈ t, okT x
 bal : ∀ v, bal t v = posAt l v
 len : t.length = leastF l
 inc : t.Pairwise keyLt
theorem net_sorted {l : List Share} (h : RightP l) {t : List Tfer} (hp : t.Perm (netO (nzl l))) (hs : t.Pairwise fun a b => ¬ keyLt b a) : t = netF l ∧ NetP l t := by
 obtain ⟨h1, h2, h3⟩ := netO_spec (nzl_nz h)
 have ok : ∀ x ∈ t, okT x := fun x hx => h1 x (hp.mem_iff.1 hx)
 have hb : ∀ v, bal t v = posAt (nzl l) v := fun v => (bal_perm v hp).trans (h2 v)
 have hl : t.length + mostB (amt (nzl l)) (full (nzl l).length) = (nzl l).length := by rw [hp.length_eq]; exact h3
 have hinc : t.Pairwise keyLt := by
   rw [List.pairwise_iff_getElem] at hs ⊢
   intro i j hi hj hij
   have hn := apart (nzl_nz h) ok hb hl hij (List.getElem?_eq_getElem hi) (List.getElem?_eq_getElem hj)
   have := hs i j hi hj hij
   by_cases hk : keyLt t[i] t[j]
   · exact hk
   · exact absurd (key_eq hk this) hn
 refine ⟨?_, ok, fun v => by rw [hb v, posAt_nzl], by unfold leastF; omega, hinc⟩
 have hm : (netF l).Pairwise fun a b => keyLe a b = true := List.pairwise_mergeSort (fun a b c h1 h2 => by
   unfold keyLe keyLt at *
   simp only [decide_eq_true_eq] at *
   omega) (fun a b => by
   unfold keyLe keyLt
   simp only [Bool.or_eq_true, decide_eq_true_eq]
   omega) _
 refine List.Perm.eq_of_pairwise (le := fun a b => keyLe a b = true) (fun a b ha hb' h4 h5 => ?_) (hs.imp fun h => by unfold keyLe; simpa using h) hm (hp.trans (List.mergeSort_perm _ _).symm)
 have hbt : b ∈ t := hp.mem_iff.2 ((List.mergeSort_perm _ _).mem_iff.1 hb')
 unfold keyLe at h4 h5
 simp only [decide_eq_true_eq] at h4 h5
 obtain ⟨i, hi⟩ := List.getElem?_of_mem ha
 obtain ⟨j, hj⟩ := List.getElem?_of_mem hbt
 have hk := key_eq h5 h4
 rcases Nat.lt_trichotomy i j with e | e | e
 · exact absurd hk (apart (nzl_nz h) ok hb hl e hi hj)
 · subst e; rw [hi] at hj; exact Option.some.inj hj
 · exact absurd ⟨hk.1.symm, hk.2.symm⟩ (apart (nzl_nz h) ok hb hl e hj hi)
theorem netF_spec {l : List Share} (h : RightP l) : NetP l (netF l) := by
 have hm : (netF l).Pairwise fun a b => keyLe a b = true := List.pairwise_mergeSort (fun a b c h1 h2 => by
   unfold keyLe keyLt at *
   simp only [decide_eq_true_eq] at *
   omega) (fun a b => by
   unfold keyLe keyLt
   simp only [Bool.or_eq_true, decide_eq_true_eq]
   omega) _
 exact (net_sorted h (List.mergeSort_perm _ _) (hm.imp fun h => by unfold keyLe at h; simpa using h)).2
def back (l : List Share) : List Share := l.map fun x => ⟨x.o, -x.a⟩
theorem most_half {az : List Int} (hn : az.length ≤ 8) (hz : ∀ i, i < az.length → az.getD i 0 ≠ 0) : ∀ S, S < 2 ^ az.length → 2 * mostB az S ≤ cardTo S az.length ∧ (sumB az S ≠ 0 → 2 * mostB az S + 1 ≤ cardTo S az.length) := by
 intro S
 induction S using Nat.strongRecOn with
 | _ S ih =>
   intro hS
   have h256 := pow_le8 hn
   by_cases h0 : S = 0
   · subst h0
     rw [most_zero, cardTo_zero, sumB_zero]
     exact ⟨Nat.le_refl _, fun h => absurd rfl h⟩
   · obtain ⟨i, h1, h2, h3⟩ := most_ex hn hS h0
     have hlt := clr_lt (by omega) (by omega) h2
     obtain ⟨i1, i2⟩ := ih _ hlt (by omega)
     have hc := cardTo_clr h2 az.length
     rw [if_pos h1] at hc
     have hs := sumB_clr h2 h1
     have hza := hz i h1
     unfold zB at h3
     split at h3
     · rename_i hz0
       have := i2 (by omega)
       exact ⟨by omega, fun h => absurd hz0 h⟩
     · exact ⟨by omega, fun _ => by omega⟩
theorem least_bounds {l : List Share} (h : RightP l) : (nzl l).length ≤ 2 * leastF l ∧ ((nzl l).length = 0 → leastF l = 0) ∧ ((nzl l).length ≠ 0 → leastF l < (nzl l).length) := by
 have hn := nzl_nz h
 have hle : (amt (nzl l)).length = (nzl l).length := by simp [amt]
 have h1 := (most_half (az := amt (nzl l)) (by rw [hle]; exact hn.len) (fun i hi => by
   rw [hle] at hi
   obtain ⟨x, hx⟩ := getElem_some hi
   have : (amt (nzl l)).getD i 0 = x.a := by simp [amt, hx]
   rw [this]; exact hn.nz x (List.mem_of_getElem? hx)) (full (nzl l).length) (by rw [hle]; exact full_lt _)).1
 rw [hle, cardTo_full _ _ (Nat.le_refl _)] at h1
 unfold leastF
 refine ⟨by omega, fun h => by omega, fun h0 => ?_⟩
 have hz : sumB (amt (nzl l)) (full (nzl l).length) = 0 := by rw [← hle, sumB_full]; exact hn.sum
 have := most_more (az := amt (nzl l)) (by rw [hle]; exact hn.len) (S := full (nzl l).length) (T := 0) (by rw [hle]; exact full_lt _) (fun i hi => by simp at hi) (fun e => by
   have hb := full_bit (nzl l).length 0
   rw [← e] at hb
   simp at hb
   exact h0 (by rw [hb]; rfl)) hz
 omega
end Go.Proofs.YtjpdaapjnpdiiaaGreat.P
namespace Go.Proofs.YtjpdaapjnpdiiaaGreat.P
theorem shl_facts : ∀ k : Fin 9, IntKind.wrap .i64 (1 * 2 ^ Nat.min ((k.1 : Int).toNat) (IntKind.bits .i64)) = ((2 ^ k.1 : Nat) : Int) := by decide +kernel
theorem shl_eq {k : Nat} (h : k ≤ 8) : IntKind.wrap .i64 (1 * 2 ^ Nat.min ((k : Int).toNat) (IntKind.bits .i64)) = ((2 ^ k : Nat) : Int) := shl_facts ⟨k, by omega⟩
theorem bit_facts : ∀ S : Fin 256, ∀ k : Fin 8, IntKind.wrap .i64 ((BitVec.ofInt (IntKind.bits .i64) ((S.1 : Int).fdiv (2 ^ Nat.min ((k.1 : Int).toNat) (IntKind.bits .i64))) &&& BitVec.ofInt (IntKind.bits .i64) 1).toNat) = if S.1.testBit k.1 then 1 else 0 := by decide +kernel
theorem bit_eq {S k : Nat} (h : S < 256) (hk : k < 8) : IntKind.wrap .i64 ((BitVec.ofInt (IntKind.bits .i64) ((S : Int).fdiv (2 ^ Nat.min ((k : Int).toNat) (IntKind.bits .i64))) &&& BitVec.ofInt (IntKind.bits .i64) 1).toNat) = if S.testBit k then 1 else 0 := bit_facts ⟨S, h⟩ ⟨k, hk⟩
theorem clr_facts : ∀ S : Fin 256, ∀ k : Fin 8, IntKind.wrap .i64 ((BitVec.ofInt (IntKind.bits .i64) (S.1 : Int) &&& ~~~ BitVec.ofInt (IntKind.bits .i64) ((2 ^ k.1 : Nat) : Int)).toNat) = (((if S.1.testBit k.1 then S.1 ^^^ 2 ^ k.1 else S.1) : Nat) : Int) := by decide +kernel
theorem clr_int {S k : Nat} (h : S < 256) (hk : k < 8) : IntKind.wrap .i64 ((BitVec.ofInt (IntKind.bits .i64) (S : Int) &&& ~~~ BitVec.ofInt (IntKind.bits .i64) ((2 ^ k : Nat) : Int)).toNat) = (((if S.testBit k then S ^^^ 2 ^ k else S) : Nat) : Int) := clr_facts ⟨S, h⟩ ⟨k, hk⟩
theorem wrap_small {n : Int} (h0 : 0 ≤ n) (h : n < 9223372036854775808) : IntKind.wrap .i64 n = n := by
 have e : (2 : Int) ^ (IntKind.bits .i64) = 18446744073709551616 := by decide
 have e2 : (2 : Int) ^ (IntKind.bits .i64 - 1) = 9223372036854775808 := by decide
 unfold IntKind.wrap
 rw [e, e2]
 have : n % 18446744073709551616 = n := by omega
 rw [this]
 simp only [Bool.and_eq_true, decide_eq_true_eq]
 rw [if_neg (by omega)]
end Go.Proofs.YtjpdaapjnpdiiaaGreat.P
namespace Go.Proofs.YtjpdaapjnpdiiaaGreat.P
def updF (H : Nat → Int) (i : Nat) (x : Int) : Nat → Int := fun v => if v = i then x else H v
theorem posAt_take {l : List Share} {k : Nat} {x : Share} (h : l[k]? = some x) (v : Int) : posAt (l.take (k + 1)) v = posAt (l.take k) v + if x.o = v then x.a else 0 := by
 rw [take_snoc l k x h, posAt_snoc]
theorem all_step {α : Type} {p : α → Prop} {l : List α} {k : Nat} {x : α} (hx : l[k]? = some x) (h : ∀ y ∈ l.take k, p y) (h1 : p x) : ∀ y ∈ l.take (k + 1), p y := by
 rw [take_snoc _ _ _ hx]
 intro y hy
 rcases List.mem_append.1 hy with hy | hy
 · exact h y hy
 · simp at hy; subst hy; exact h1
def bnd (h l : Int) (c : Nat) : Prop := (-2097152 * (c : Int) ≤ h ∧ h ≤ 2097152 * (c : Int)) ∧ -1048576 * (c : Int) ≤ l ∧ l ≤ 1048576 * (c : Int)
end Go.Proofs.YtjpdaapjnpdiiaaGreat.P
namespace Go.Proofs.YtjpdaapjnpdiiaaGreat.P
def idxI (p : Share → Bool) (l : List Share) : Int := match firstI p l with
 | some (i, _) => i
 | none => -1
theorem firstI_at {p : Share → Bool} : ∀ {l : List Share} {k : Nat} {x : Share}, l[k]? = some x → (∀ y ∈ l.take k, p y = false) → p x = true → firstI p l = some (k, x)
 | [], k, x, h, _, _ => by simp at h
 | y :: r, 0, x, h, _, hp => by simp at h; subst h; rw [firstI, if_pos hp]
 | y :: r, k + 1, x, h, hn, hp => by
   have h1 := hn y (by simp)
   have := firstI_at (l := r) (k := k) (x := x) (by simpa using h) (fun z hz => hn z (by simp [hz])) hp
   rw [firstI, if_neg (by simp [h1]), this]
theorem firstI_all {p : Share → Bool} : ∀ {l : List Share}, (∀ y ∈ l, p y = false) → firstI p l = none
 | [], _ => rfl
 | y :: r, h => by rw [firstI, if_neg (by simp [h y (by simp)]), firstI_all fun z hz => h z (by simp [hz])]
def isZ (x : Share) : Bool := decide (x.a = 0)
theorem nzl_none {l : List Share} (h : ∀ x ∈ l, isZ x = false) : nzl l = l := List.filter_eq_self.2 fun x hx => by have := h x hx; simpa [isZ] using this
theorem nzl_take_yes {l : List Share} {k : Nat} {x : Share} (hx : l[k]? = some x) (h : x.a ≠ 0) : nzl (l.take (k + 1)) = nzl (l.take k) ++ [x] := by
 unfold nzl; rw [take_snoc _ _ _ hx, List.filter_append]; simp [h]
theorem nzl_take_no {l : List Share} {k : Nat} {x : Share} (hx : l[k]? = some x) (h : x.a = 0) : nzl (l.take (k + 1)) = nzl (l.take k) := by
 unfold nzl; rw [take_snoc _ _ _ hx, List.filter_append]; simp [h]
theorem firstI_take {p : Share → Bool} : ∀ {l : List Share} {k : Nat} {x : Share}, firstI p l = some (k, x) → ∀ y ∈ l.take k, p y = false
 | [], k, x, h, y, hy => by simp [firstI] at h
 | z :: r, k, x, h, y, hy => by
   rw [firstI] at h
   split at h
   · cases h; simp at hy
   · rename_i hz
     split at h
     · rename_i j w hj
       cases h
       rcases List.mem_cons.1 (by simpa using hy) with rfl | hy
       · simpa using hz
       · exact firstI_take hj y hy
     · cases h
structure Del (l : List Share) (i k : Nat) (es : List (List CV)) (f : Share → List CV) : Prop where
 len : es.length = l.length
 lt : i < k
 le : k ≤ l.length
 kept : es.take i = (nzl (l.take k)).map f
 num : (nzl (l.take k)).length = i
 rest : ∀ j, k ≤ j → es[j]? = (l[j]?).map f
 rows : ∀ r ∈ es, r.length = 2
theorem Del.start {l : List Share} {i : Nat} {x : Share} {f : Share → List CV} (h2f : ∀ x, (f x).length = 2) (hf : firstI isZ l = some (i, x)) : Del l i (i + 1) (l.map f) f := by
 obtain ⟨h1, h2⟩ := firstI_get hf
 have h3 := (List.getElem?_eq_some_iff.1 h1).1
 have h4 : nzl (l.take (i + 1)) = l.take i := by
   rw [nzl_take_no h1 (by simpa [isZ] using h2)]
   exact nzl_none (firstI_take hf)
 refine ⟨by simp, by omega, by omega, by rw [h4, List.map_take], by rw [h4, List.length_take]; omega, fun j _ => by rw [List.getElem?_map], fun r hr => by obtain ⟨y, _, rfl⟩ := List.mem_map.1 hr; exact h2f y⟩
theorem Del.skip {l : List Share} {i k : Nat} {es : List (List CV)} {f : Share → List CV} (h : Del l i k es f) {x : Share} (hx : l[k]? = some x) (hz : x.a = 0) : Del l i (k + 1) es f := by
 have h3 := (List.getElem?_eq_some_iff.1 hx).1
 have h4 := nzl_take_no hx hz
 exact ⟨h.len, by have := h.lt; omega, by omega, by rw [h4]; exact h.kept, by rw [h4]; exact h.num, fun j hj => h.rest j (by omega), h.rows⟩
theorem two {r : List CV} (h : r.length = 2) : ∃ a b, r = [a, b] := by
 match r, h with
 | [a, b], _ => exact ⟨a, b, rfl⟩
theorem Del.keep {l : List Share} {i k : Nat} {es : List (List CV)} {f : Share → List CV} (h2f : ∀ x, (f x).length = 2) (h : Del l i k es f) {x : Share} (hx : l[k]? = some x) (hz : x.a ≠ 0) : Del l (i + 1) (k + 1) (es.set i (f x)) f := by
 have h3 := (List.getElem?_eq_some_iff.1 hx).1
 have h4 := nzl_take_yes hx hz
 have hl := h.len
 have hlt := h.lt
 refine ⟨by simpa using hl, by omega, by omega, ?_, by rw [h4, List.length_append, h.num]; rfl, fun j hj => ?_, fun r hr => ?_⟩
 · rw [h4, List.map_append, ← h.kept]
   have : (es.set i (f x))[i]? = some (f x) := List.getElem?_set_self (by omega)
   rw [take_snoc _ _ _ this, List.take_set]
   rw [List.set_eq_of_length_le (by rw [List.length_take]; omega)]
   rfl
 · rw [List.getElem?_set_ne (by omega)]; exact h.rest j (by omega)
 · rcases List.mem_or_eq_of_mem_set hr with hr | rfl
   · exact h.rows r hr
   · exact h2f x
end Go.Proofs.YtjpdaapjnpdiiaaGreat.P
namespace Go.Proofs.YtjpdaapjnpdiiaaGreat.P
def tabN (N : Nat) (H : Nat → Int) : List (List CV) := (List.range N).map fun v => cI (H v)
theorem tabN_get {N : Nat} {H : Nat → Int} {i : Nat} (h : i < N) : (tabN N H)[i]? = some (cI (H i)) := by
 unfold tabN; rw [List.getElem?_map, List.getElem?_range h]; rfl
theorem tabN_len (N : Nat) (H : Nat → Int) : (tabN N H).length = N := by simp [tabN]
theorem tabN_set {N : Nat} {H : Nat → Int} {i : Nat} {x : Int} : (tabN N H).set i [.int .i64 x] = tabN N (updF H i x) := by
 apply List.ext_getElem?
 intro j
 by_cases hj : j < N
 · rw [tabN_get hj]
   by_cases e : i = j
   · subst e; rw [List.getElem?_set_self (by rw [tabN_len]; exact hj)]; simp [updF]
   · rw [List.getElem?_set_ne e, tabN_get hj]; simp [updF, Ne.symm e]
 · rw [List.getElem?_eq_none (by simp [tabN]; omega), List.getElem?_eq_none (by rw [tabN_len]; omega)]
theorem tabN_zero (N : Nat) : List.replicate N [CV.int .i64 0] = tabN N (fun _ => 0) := by
 apply List.ext_getElem?
 intro j
 by_cases hj : j < N
 · rw [tabN_get hj, List.getElem?_replicate, if_pos hj]
 · rw [List.getElem?_eq_none (by simp; omega), List.getElem?_eq_none (by rw [tabN_len]; omega)]
theorem tabN_congr {N : Nat} {H K : Nat → Int} (h : ∀ j, j < N → H j = K j) : tabN N H = tabN N K := by
 apply List.ext_getElem?
 intro j
 by_cases hj : j < N
 · rw [tabN_get hj, tabN_get hj, h j hj]
 · rw [List.getElem?_eq_none (by rw [tabN_len]; omega), List.getElem?_eq_none (by rw [tabN_len]; omega)]
theorem sumTo_bound {az : List Int} (ha : ∀ i, i < az.length → -137438953472 ≤ az.getD i 0 ∧ az.getD i 0 ≤ 137438953472) (S : Nat) : ∀ k, k ≤ az.length → -137438953472 * (k : Int) ≤ sumTo az S k ∧ sumTo az S k ≤ 137438953472 * (k : Int)
 | 0, _ => by simp [sumTo]
 | k + 1, h => by
   have := sumTo_bound ha S k (by omega)
   have := ha k (by omega)
   rw [sumTo]
   split <;> omega
theorem most_card {az : List Int} (hn : az.length ≤ 8) : ∀ S, S < 2 ^ az.length → mostB az S ≤ cardTo S az.length := by
 intro S
 induction S using Nat.strongRecOn with
 | _ S ih =>
   intro hS
   have h256 := pow_le8 hn
   by_cases h0 : S = 0
   · subst h0; exact Nat.zero_le _
   · obtain ⟨i, h1, h2, h3⟩ := most_ex hn hS h0
     have hlt := clr_lt (by omega) (by omega) h2
     have := ih _ hlt (by omega)
     have hc := cardTo_clr h2 az.length
     rw [if_pos h1] at hc
     unfold zB at h3
     split at h3 <;> omega
theorem cardTo_le (S : Nat) : ∀ k, cardTo S k ≤ k
 | 0 => Nat.le_refl _
 | k + 1 => by have := cardTo_le S k; rw [cardTo]; split <;> omega
structure Few (l : List Share) : Prop where
 len : l.length ≤ 8
 ok : ∀ x ∈ l, okS x
theorem Few.amt {l : List Share} (h : Few l) : (amt l).length = l.length ∧ ∀ i, i < (Go.Proofs.YtjpdaapjnpdiiaaGreat.P.amt l).length → -137438953472 ≤ (Go.Proofs.YtjpdaapjnpdiiaaGreat.P.amt l).getD i 0 ∧ (Go.Proofs.YtjpdaapjnpdiiaaGreat.P.amt l).getD i 0 ≤ 137438953472 := by
 have hl : (Go.Proofs.YtjpdaapjnpdiiaaGreat.P.amt l).length = l.length := by simp [Go.Proofs.YtjpdaapjnpdiiaaGreat.P.amt]
 refine ⟨hl, fun i hi => ?_⟩
 rw [hl] at hi
 obtain ⟨x, hx⟩ := getElem_some hi
 have : (Go.Proofs.YtjpdaapjnpdiiaaGreat.P.amt l).getD i 0 = x.a := by simp [Go.Proofs.YtjpdaapjnpdiiaaGreat.P.amt, hx]
 rw [this]
 exact (h.ok x (List.mem_of_getElem? hx)).2
theorem Few.sum {l : List Share} (h : Few l) (S : Nat) : -1099511627776 ≤ sumB (Go.Proofs.YtjpdaapjnpdiiaaGreat.P.amt l) S ∧ sumB (Go.Proofs.YtjpdaapjnpdiiaaGreat.P.amt l) S ≤ 1099511627776 := by
 have := sumTo_bound h.amt.2 S _ (Nat.le_refl _)
 have := h.amt.1
 have := h.len
 unfold sumB
 omega
theorem Few.most {l : List Share} (h : Few l) {S : Nat} (hS : S < 2 ^ l.length) : mostB (Go.Proofs.YtjpdaapjnpdiiaaGreat.P.amt l) S ≤ 8 := by
 have h1 := h.amt.1
 have h2 := h.len
 have := most_card (az := Go.Proofs.YtjpdaapjnpdiiaaGreat.P.amt l) (by omega) S (by rw [h1]; exact hS)
 have := cardTo_le S (Go.Proofs.YtjpdaapjnpdiiaaGreat.P.amt l).length
 omega
def sumT (l : List Share) (S : Nat) : Int := sumB (amt l) S
def mosT (l : List Share) (S : Nat) : Int := mostB (amt l) S
theorem bit_yes {S i : Nat} (hS : S < 256) (hi : i < 8) (hb : S.testBit i = true) : IntKind.wrap .i64 ((BitVec.ofInt (IntKind.bits .i64) ((S : Int).fdiv (2 ^ Nat.min ((i : Int).toNat) (IntKind.bits .i64))) &&& BitVec.ofInt (IntKind.bits .i64) 1).toNat) = 1 := by rw [bit_eq hS hi, hb]; rfl
theorem bit_no {S i : Nat} (hS : S < 256) (hi : i < 8) (hb : S.testBit i = false) : IntKind.wrap .i64 ((BitVec.ofInt (IntKind.bits .i64) ((S : Int).fdiv (2 ^ Nat.min ((i : Int).toNat) (IntKind.bits .i64))) &&& BitVec.ofInt (IntKind.bits .i64) 1).toNat) = 0 := by rw [bit_eq hS hi, hb]; rfl
theorem clr_yes {S i : Nat} (hS : S < 256) (hi : i < 8) (hb : S.testBit i = true) : IntKind.wrap .i64 ((BitVec.ofInt (IntKind.bits .i64) (S : Int) &&& ~~~ BitVec.ofInt (IntKind.bits .i64) (IntKind.wrap .i64 (1 * 2 ^ Nat.min ((i : Int).toNat) (IntKind.bits .i64)))).toNat) = ((S ^^^ 2 ^ i : Nat) : Int) := by
 rw [shl_eq (by omega), clr_int hS hi, if_pos hb]
theorem clr_no {S i : Nat} (hS : S < 256) (hi : i < 8) (hb : S.testBit i = false) : IntKind.wrap .i64 ((BitVec.ofInt (IntKind.bits .i64) (S : Int) &&& ~~~ BitVec.ofInt (IntKind.bits .i64) (IntKind.wrap .i64 (1 * 2 ^ Nat.min ((i : Int).toNat) (IntKind.bits .i64)))).toNat) = (S : Int) := by
 rw [shl_eq (by omega), clr_int hS hi, if_neg (by rw [hb]; decide)]
def Fil (l : List Share) (S : Nat) (F G : Nat → Int) : Prop := ∀ j, j < 2 ^ l.length → (j < S → F j = sumT l j ∧ G j = mosT l j) ∧ (S < j → F j = 0 ∧ G j = 0)
structure FilIn (l : List Share) (S i : Nat) (F G : Nat → Int) : Prop where
 fil : Fil l S F G
 sum : ∀ j, j < i → S.testBit j = true → F S = sumT l S
 mx : G S = (maxTo (mostB (amt l)) S i : Nat)
 fb : F S = 0 ∨ F S = sumT l S
theorem Fil.start (l : List Share) : Fil l 1 (fun _ => 0) (fun _ => 0) := by
 intro j hj
 refine ⟨fun h => ?_, fun _ => ⟨rfl, rfl⟩⟩
 obtain rfl : j = 0 := by omega
 exact ⟨(sumB_zero _).symm, rfl⟩
theorem FilIn.skip {l : List Share} {S i : Nat} {F G : Nat → Int} (h : FilIn l S i F G) (hb : S.testBit i = false) : FilIn l S (i + 1) F G := by
 refine ⟨h.fil, fun j hj hbj => ?_, ?_, h.fb⟩
 · by_cases e : j = i
   · subst e; rw [hb] at hbj; cases hbj
   · exact h.sum j (by omega) hbj
 · rw [maxTo, if_neg (by rw [hb]; decide)]; exact h.mx
theorem FilIn.take {l : List Share} (hf : Few l) {S i : Nat} (hS : S < 2 ^ l.length) {F G : Nat → Int} (h : FilIn l S i F G) (hb : S.testBit i = true) {x : Share} (hx : l[i]? = some x) :
   FilIn l S (i + 1) (updF F S (F (S ^^^ 2 ^ i) + x.a)) (updF G S (max (G S) (G (S ^^^ 2 ^ i)))) := by
 have h8 := hf.len
 have h256 := pow_le8 h8
 have hil := (List.getElem?_eq_some_iff.1 hx).1
 have hlt := clr_lt (by omega) (by omega) hb
 obtain ⟨q1, q2⟩ := (h.fil (S ^^^ 2 ^ i) (by omega)).1 hlt
 have hs : F (S ^^^ 2 ^ i) + x.a = sumT l S := by
   have h3 := sumB_clr (az := amt l) hb (by rw [hf.amt.1]; exact hil)
   have h4 : (amt l).getD i 0 = x.a := by simp [amt, hx]
   rw [q1]
   unfold sumT
   omega
 refine ⟨fun j hj => ?_, fun j _ _ => by simp [updF, hs], ?_, .inr (by simp [updF, hs])⟩
 · obtain ⟨r1, r2⟩ := h.fil j hj
   refine ⟨fun hjS => ?_, fun hjS => ?_⟩
   · have : j ≠ S := by omega
     simp only [updF, if_neg this]; exact r1 hjS
   · have : j ≠ S := by omega
     simp only [updF, if_neg this]; exact r2 hjS
 · have hm := h.mx
   simp only [updF, if_true]
   rw [maxTo, if_pos hb, hm, q2]
   unfold mosT
   omega
theorem FilIn.done {l : List Share} (hf : Few l) {S : Nat} (hS : S < 2 ^ l.length) (h0 : 0 < S) {F G : Nat → Int} (h : FilIn l S l.length F G) : F S = sumT l S ∧ G S + (zB (amt l) S : Nat) = mosT l S := by
 obtain ⟨i, hi⟩ := Nat.exists_testBit_of_ne_zero (x := S) (by omega)
 have h8 := hf.len
 have h256 := pow_le8 h8
 refine ⟨h.sum i (bit_lt hS hi) hi, ?_⟩
 have hms := most_step (az := amt l) (by rw [hf.amt.1]; exact h8) (S := S) (by omega) (by omega)
 rw [hf.amt.1] at hms
 have := h.mx
 unfold mosT
 omega
theorem FilIn.next {l : List Share} {S : Nat} {F G : Nat → Int} (h : Fil l S F G) (h1 : F S = sumT l S) (h2 : G S = mosT l S) : ∀ j, j < 2 ^ l.length → (j < S + 1 → F j = sumT l j ∧ G j = mosT l j) ∧ (S + 1 < j → F j = 0 ∧ G j = 0) := by
 intro j hj
 obtain ⟨r1, r2⟩ := h j hj
 refine ⟨fun hjS => ?_, fun hjS => r2 (by omega)⟩
 by_cases e : j = S
 · subst e; exact ⟨h1, h2⟩
 · exact r1 (by omega)
def Fil0 (l : List Share) (S : Nat) (F G : Nat → Int) : Prop := Fil l S F G ∧ (S < 2 ^ l.length → F S = 0 ∧ G S = 0)
theorem Fil0.start (l : List Share) : Fil0 l 1 (fun _ => 0) (fun _ => 0) := ⟨Fil.start l, fun _ => ⟨rfl, rfl⟩⟩
theorem Fil0.inner {l : List Share} {S : Nat} {F G : Nat → Int} (h : Fil0 l S F G) (hS : S < 2 ^ l.length) : FilIn l S 0 F G :=
 ⟨h.1, fun j hj => by omega, by rw [(h.2 hS).2]; rfl, .inl (h.2 hS).1⟩
theorem Fil.next {l : List Share} {S : Nat} {F G : Nat → Int} (h : Fil l S F G) (h1 : F S = sumT l S) (h2 : G S = mosT l S) : Fil0 l (S + 1) F G := by
 have h' := FilIn.next h h1 h2
 exact ⟨h', fun hS => (h (S + 1) hS).2 (by omega)⟩
theorem Fil.updG {l : List Share} {S : Nat} {F G : Nat → Int} (h : Fil l S F G) (x : Int) : Fil l S F (updF G S x) := by
 intro j hj
 obtain ⟨r1, r2⟩ := h j hj
 refine ⟨fun hjS => ?_, fun hjS => ?_⟩
 · have : j ≠ S := by omega
   simp only [updF, if_neg this]; exact r1 hjS
 · have : j ≠ S := by omega
   simp only [updF, if_neg this]; exact r2 hjS
theorem idx_tab {N : Nat} {H : Nat → Int} {i : Int} {j : Nat} (hi : i = j) (h : j < N) {K : List CV → Prop} (k : K (cI (H j))) : (0 ≤ i ∧ i < (tabN N H).length) ∧ ∀ r, (tabN N H)[i.toNat]? = some r → K r := by
 subst hi
 refine ⟨⟨by omega, by rw [tabN_len]; omega⟩, fun r hr => ?_⟩
 rw [Int.toNat_natCast, tabN_get h] at hr
 cases hr
 exact k
theorem nzl_few {l : List Share} (h : RightP l) : Few (nzl l) := ⟨(nzl_nz h).len, (nzl_nz h).ok⟩
end Go.Proofs.YtjpdaapjnpdiiaaGreat.P
namespace Go.Proofs.YtjpdaapjnpdiiaaGreat.P
theorem pathN_fuel {l : List Share} (h : Nz l) : ∀ (f g : Nat) (s : PS), InvN l s → s.S < f → s.S < g → pathN l f s = pathN l g s
 | 0, _, s, _, hf, _ => by omega
 | f + 1, 0, s, _, _, hg => by omega
 | f + 1, g + 1, s, hi, hf, hg => by
   rw [pathN, pathN]
   split
   · rfl
   · rename_i h0
     obtain ⟨h1, h2⟩ := hi.next h h0
     exact pathN_fuel h f g _ h1 (by omega) (by omega)
structure NetI (l : List Share) (s : PS) : Prop where
 inv : InvN l s
 path : (pathN l 256 s).O = netO l
theorem NetI.start {l : List Share} (h : Nz l) : NetI l ⟨full l.length, [], []⟩ := ⟨.start h, rfl⟩
theorem NetI.next {l : List Share} (h : Nz l) {s : PS} (hi : NetI l s) (h0 : s.S ≠ 0) : NetI l (stepN l s) ∧ (stepN l s).S < s.S := by
 obtain ⟨h1, h2⟩ := hi.inv.next h h0
 have hlt := hi.inv.lt
 have h256 := pow_le8 h.len
 refine ⟨⟨h1, ?_⟩, h2⟩
 rw [← hi.path]
 rw [pathN_fuel h 256 255 _ h1 (by omega) (by omega)]
 have e : pathN l (255 + 1) s = if s.S = 0 then s else pathN l 255 (stepN l s) := rfl
 rw [if_neg h0] at e
 exact (congrArg PS.O e).symm
theorem NetI.done {l : List Share} {s : PS} (hi : NetI l s) (h0 : s.S = 0) : s.O = netO l := by
 rw [← hi.path]
 have e : pathN l (255 + 1) s = if s.S = 0 then s else pathN l 255 (stepN l s) := rfl
 rw [if_pos h0] at e
 exact (congrArg PS.O e).symm
theorem NetI.step {l : List Share} (h : Nz l) {s : PS} (hi : NetI l s) (h0 : s.S ≠ 0) {i : Nat} {x : Share} (hx : l[i]? = some x) (hp : pickP (amt l) s.S i = true) (hn : ∀ j, j < i → pickP (amt l) s.S j = false) :
   (sumT l (s.S ^^^ 2 ^ i) = 0 → NetI l ⟨s.S ^^^ 2 ^ i, [], s.O ++ settleG (s.G ++ [x])⟩ ∧ Grp (s.G ++ [x]) ∧ ((s.G ++ [x]).map (·.o)).Nodup) ∧
   (sumT l (s.S ^^^ 2 ^ i) ≠ 0 → NetI l ⟨s.S ^^^ 2 ^ i, s.G ++ [x], s.O⟩) ∧ s.S ^^^ 2 ^ i < s.S := by
 have hil := (List.getElem?_eq_some_iff.1 hx).1
 have hpk := pick_of (by simpa [amt] using hil) hp hn
 obtain ⟨h1, h2⟩ := hi.next h h0
 unfold stepN at h1 h2
 rw [hpk, hx] at h1 h2
 simp only [Option.toList] at h1 h2
 refine ⟨fun hz => ?_, fun hz => ?_, ?_⟩
 · have hz' : sumB (amt l) (s.S ^^^ 2 ^ i) = 0 := hz
   rw [if_pos hz'] at h1
   have hb : s.S.testBit i = true := by unfold pickP at hp; simp at hp; exact hp.1
   refine ⟨h1, (hi.inv.step h hx hp).resolve_right (fun h => h hz'), ?_⟩
   rw [List.map_append, List.nodup_append]
   refine ⟨hi.inv.dis, by simp, fun a ha b hb' => ?_⟩
   simp at hb'
   subst hb'
   rintro rfl
   obtain ⟨y, hy, e⟩ := List.mem_map.1 ha
   obtain ⟨j, hj, hbj⟩ := hi.inv.mem y hy
   have := h.idx hj hx e
   subst this
   rw [hb] at hbj; cases hbj
 · have hz' : ¬ sumB (amt l) (s.S ^^^ 2 ^ i) = 0 := hz
   rw [if_neg hz'] at h1
   exact h1
 · split at h2 <;> exact h2
theorem InvN.sizes {l : List Share} (h : Nz l) {s : PS} (hi : InvN l s) : s.O.length + s.G.length ≤ 17 := by
 have h1 := hi.cnt
 have h2 := h.len
 have hle : (amt l).length = l.length := by simp [amt]
 have h3 := most_card (az := amt l) (by omega) s.S (by rw [hle]; exact hi.lt)
 have h4 := cardTo_le s.S (amt l).length
 split at h1 <;> omega
theorem pick_some {l : List Share} (h : Nz l) {S : Nat} (hS : S < 2 ^ l.length) (h0 : S ≠ 0) : ¬ ∀ j, j < l.length → pickP (amt l) S j = false := by
 intro hn
 have hle : (amt l).length = l.length := by simp [amt]
 obtain ⟨i, h1, h2, _⟩ := pick_ex (az := amt l) (by have := h.len; omega) (by rw [hle]; exact hS) h0
 rw [hn i (by omega)] at h2
 cases h2
theorem most_pos {l : List Share} (h : Nz l) {S : Nat} (hS : S < 2 ^ l.length) (h0 : S ≠ 0) : zB (amt l) S ≤ mostB (amt l) S := by
 have hle : (amt l).length = l.length := by simp [amt]
 have := most_step (az := amt l) (by have := h.len; omega) (S := S) (by have := pow_le8 h.len; omega) h0
 omega
theorem pickP_int {l : List Share} (h : Nz l) {S i : Nat} (hS : S < 2 ^ l.length) (h0 : S ≠ 0) : pickP (amt l) S i = (S.testBit i && decide (mosT l (S ^^^ 2 ^ i) = mosT l S - (zB (amt l) S : Nat))) := by
 have := most_pos h hS h0
 unfold pickP mosT
 congr 1
 exact decide_eq_decide.2 ⟨fun h => by omega, fun h => by omega⟩
theorem idxI_neg {p : Share → Bool} {g : List Share} : idxI p g < 0 ↔ firstI p g = none := by
 unfold idxI
 cases firstI p g with
 | none => simp
 | some q => obtain ⟨i, x⟩ := q; simp
theorem idxI_some {p : Share → Bool} {g : List Share} {i : Nat} {x : Share} (h : firstI p g = some (i, x)) : idxI p g = i := by unfold idxI; rw [h]
theorem settle_none {g : List Share} (h : stepS g = none) : settleG g = [] := by unfold settleG settleF; rw [h]
theorem settle_some {g g' : List Share} {t : Tfer} (hg : Grp g) (hd : (g.map (·.o)).Nodup) (h : stepS g = some (t, g')) : settleG g = t :: settleG g' := by
 obtain ⟨h1, h2, h3, _⟩ := stepS_spec hg hd h
 have hn := nzc_le g
 have hl := hg.len
 rw [← settleG_step h1 h2 (f := 8) (by omega)]
 show settleF (8 + 1) g = _
 rw [settleF, h]
def cmpT (a b : Tfer) : Int := orI [cmpI a.f b.f, cmpI a.t b.t]
theorem cmpT_lt (a b : Tfer) : cmpT a b < 0 ↔ keyLt a b := by
 unfold cmpT orI keyLt
 have h1 := cmpI_lt a.f b.f
 have h2 := cmpI_eq a.f b.f
 have h3 := cmpI_lt a.t b.t
 have h4 := cmpI_eq a.t b.t
 simp only [orI]
 split
 · split <;> omega
 · omega
end Go.Proofs.YtjpdaapjnpdiiaaGreat.P
