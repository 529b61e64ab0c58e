/- Sums of shares: plain. No program in sight. -/
import Derived.Test.YtepacknnggnifaaPA
import Derived.Test.YtepacknnggnifaaF9
import Derived.Test.YtepacknnggnifaaFK
namespace Go.Proofs.Ytepacknnggnifaa
open Go.RowKit

/-- What an operator has in a list of shares. -/
def amt (p : List Share) (o : Int) : Int := (p.map fun x => if x.o = o then x.a else 0).sum
theorem amt_snoc (p : List Share) (x : Share) (o : Int) : amt (p ++ [x]) o = if o = x.o then amt p o + x.a else amt p o := by
  simp only [amt, List.map_append, List.sum_append, List.map_cons, List.map_nil, List.sum_cons, List.sum_nil]
  by_cases h : o = x.o
  · rw [if_pos h, if_pos h.symm]; omega
  · rw [if_neg h, if_neg (fun e => h e.symm)]; omega
theorem amt_out {p : List Share} {o : Int} (h : o ∉ p.map (·.o)) : amt p o = 0 := by
  induction p with
  | nil => rfl
  | cons x r ih =>
    simp only [List.map_cons, List.mem_cons, not_or] at h
    have := ih h.2
    simp only [amt, List.map_cons, List.sum_cons] at this ⊢
    rw [if_neg (fun e => h.1 e.symm)]; omega
/-- Whether all sums stay within the bounds. -/
def addO : List Share → List Share → Bool
  | _, [] => true
  | p, x :: r => match plusF (amt p x.o) x.a with
    | none => false
    | some _ => addO (p ++ [x]) r
def insK (o : Int) : List Int → List Int
  | [] => [o]
  | y :: r => if o < y then o :: y :: r else if o = y then y :: r else y :: insK o r
def keysL (p : List Share) : List Int := p.foldl (fun l x => insK x.o l) []
theorem keysL_snoc (p : List Share) (x : Share) : keysL (p ++ [x]) = insK x.o (keysL p) := by simp [keysL]
theorem insK_mem (o : Int) : ∀ (l : List Int) (z : Int), z ∈ insK o l ↔ z = o ∨ z ∈ l
  | [], z => by simp [insK]
  | y :: r, z => by
    rw [insK]
    split
    · simp
    · split
      · rename_i h; subst h; simp
      · simp only [List.mem_cons, insK_mem o r z]
        exact ⟨fun h => by rcases h with h | h | h <;> simp [h], fun h => by rcases h with h | h | h <;> simp [h]⟩
theorem insK_sorted (o : Int) : ∀ {l : List Int}, l.Pairwise (· < ·) → (insK o l).Pairwise (· < ·)
  | [], _ => List.pairwise_singleton _ _
  | y :: r, h => by
    obtain ⟨h1, h2⟩ := List.pairwise_cons.1 h
    rw [insK]
    split
    · refine List.pairwise_cons.2 ⟨fun z hz => ?_, h⟩
      rcases List.mem_cons.1 hz with rfl | hz
      · assumption
      · have := h1 z hz; omega
    · split
      · exact h
      · refine List.pairwise_cons.2 ⟨fun z hz => ?_, insK_sorted o h2⟩
        rcases (insK_mem o r z).1 hz with rfl | hz
        · omega
        · exact h1 z hz
theorem insK_split {o : Int} {A B : List Int} (hA : ∀ z ∈ A, z < o) (hB : ∀ z ∈ B, o < z) : insK o (A ++ B) = A ++ o :: B := by
  induction A with
  | nil =>
    cases B with
    | nil => rfl
    | cons y r => rw [List.nil_append, insK, if_pos (hB y (by simp))]; rfl
  | cons y r ih =>
    have h := hA y (by simp)
    rw [List.cons_append, insK, if_neg (by omega), if_neg (by omega), ih (fun z hz => hA z (by simp [hz]))]; rfl
theorem insK_same {o : Int} {A B : List Int} (hA : ∀ z ∈ A, z < o) : insK o (A ++ o :: B) = A ++ o :: B := by
  induction A with
  | nil => rw [List.nil_append, insK, if_neg (by omega), if_pos rfl]
  | cons y r ih =>
    have h := hA y (by simp)
    rw [List.cons_append, insK, if_neg (by omega), if_neg (by omega), ih (fun z hz => hA z (by simp [hz]))]
theorem keysL_spec (p : List Share) : (keysL p).Pairwise (· < ·) ∧ ∀ o, o ∈ keysL p ↔ o ∈ p.map (·.o) := by
  have h : ∀ (p : List Share) (l : List Int), l.Pairwise (· < ·) → (p.foldl (fun l x => insK x.o l) l).Pairwise (· < ·) ∧ ∀ o, o ∈ p.foldl (fun l x => insK x.o l) l ↔ o ∈ l ∨ o ∈ p.map (·.o) := by
    intro p
    induction p with
    | nil => intro l hl; exact ⟨hl, fun o => by simp⟩
    | cons x r ih =>
      intro l hl
      obtain ⟨h1, h2⟩ := ih (insK x.o l) (insK_sorted _ hl)
      refine ⟨h1, fun o => ?_⟩
      rw [List.foldl_cons, h2, insK_mem, List.map_cons, List.mem_cons]
      exact ⟨fun h => by rcases h with (h | h) | h <;> simp [h], fun h => by rcases h with h | h | h <;> simp [h]⟩
  obtain ⟨h1, h2⟩ := h p [] .nil
  exact ⟨h1, fun o => by rw [keysL, h2]; simp⟩
theorem keysL_len : ∀ p : List Share, (keysL p).length ≤ p.length := by
  have h : ∀ (o : Int) (l : List Int), (insK o l).length ≤ l.length + 1 := by
    intro o l
    induction l with
    | nil => simp [insK]
    | cons y r ih => rw [insK]; (repeat' split) <;> simp only [List.length_cons] <;> omega
  have h2 : ∀ (p : List Share) (l : List Int), (p.foldl (fun l x => insK x.o l) l).length ≤ l.length + p.length := by
    intro p
    induction p with
    | nil => intro l; simp
    | cons x r ih => intro l; have := ih (insK x.o l); have := h x.o l; simp only [List.foldl_cons, List.length_cons]; omega
  intro p
  have := h2 p []
  simpa [keysL] using this
/-- Two lists in order with the same members are one. -/
theorem lt_uniq {a b : List Int} (ha : a.Pairwise (· < ·)) (hb : b.Pairwise (· < ·)) (h : ∀ z, z ∈ a ↔ z ∈ b) : a = b := by
  have na : a.Nodup := ha.imp fun h => by omega
  have nb : b.Nodup := hb.imp fun h => by omega
  exact List.Perm.eq_of_pairwise (fun x y _ _ h1 h2 => by omega) ha hb ((List.perm_ext_iff_of_nodup na nb).2 h)
theorem sorted_keys {p : List Share} {ks : List Int} (hn : ks.Nodup) (hm : ∀ o, o ∈ ks ↔ o ∈ p.map (·.o)) : keysL p = ks.mergeSort leI := by
  obtain ⟨h1, h2⟩ := keysL_spec p
  have hp := List.mergeSort_perm ks leI
  have hs : (ks.mergeSort leI).Pairwise fun x y => leI x y = true := List.pairwise_mergeSort
    (fun a b c h1 h2 => by simp only [leI, decide_eq_true_eq] at *; omega)
    (fun a b => by simp only [leI, Bool.or_eq_true, decide_eq_true_eq]; omega) _
  have hnd : (ks.mergeSort leI).Nodup := hp.nodup_iff.2 hn
  refine lt_uniq h1 ((hs.and hnd).imp fun {a b} h => ?_) fun z => by rw [h2, hp.mem_iff, hm]
  have h1 := h.1
  have h2 := h.2
  simp only [leI, decide_eq_true_eq] at h1
  omega
def tabL (p : List Share) : List Share := (keysL p).map fun o => ⟨o, amt p o⟩
def fewL (p : List Share) : List Share := (tabL p).filter fun x => decide (x.a ≠ 0)

/-! ### the map of sums -/
def kvOf (f : Int → Int) (ks : List Int) : List (List Int × List CV) := ks.map fun o => ([o], [CV.int .i64 (f o)])
def updF (f : Int → Int) (o v : Int) : Int → Int := fun z => if z = o then v else f z
theorem find_in {f : Int → Int} {o : Int} : ∀ {ks : List Int}, o ∈ ks → findKV [o] (kvOf f ks) = some [CV.int .i64 (f o)]
  | [], h => by simp at h
  | y :: r, h => by
    rw [kvOf, List.map_cons, findKV]
    by_cases e : o = y
    · rw [if_pos (by rw [e]), e]
    · rw [if_neg (by intro h; simp at h; exact e h)]
      exact find_in (by rcases List.mem_cons.1 h with h | h; exact absurd h e; exact h)
theorem find_out {f : Int → Int} {o : Int} : ∀ {ks : List Int}, o ∉ ks → findKV [o] (kvOf f ks) = none
  | [], _ => rfl
  | y :: r, h => by
    rw [kvOf, List.map_cons, findKV, if_neg (by intro e; simp at e; exact h (by simp [e]))]
    exact find_out fun e => h (by simp [e])
theorem kv_ext {f g : Int → Int} {ks : List Int} (h : ∀ o ∈ ks, f o = g o) : kvOf f ks = kvOf g ks := List.map_congr_left fun o ho => by rw [h o ho]
theorem set_in {f : Int → Int} {o v : Int} : ∀ {ks : List Int}, o ∈ ks → ks.Nodup → setKV [o] [CV.int .i64 v] (kvOf f ks) = kvOf (updF f o v) ks
  | [], h, _ => by simp at h
  | y :: r, h, hn => by
    obtain ⟨h1, h2⟩ := List.nodup_cons.1 hn
    rw [kvOf, List.map_cons, setKV]
    by_cases e : o = y
    · subst e
      rw [if_pos rfl, kvOf, List.map_cons]
      have : updF f o v o = v := by simp [updF]
      rw [this]
      congr 1
      exact (kv_ext fun z hz => by simp only [updF]; rw [if_neg]; rintro rfl; exact h1 hz).symm
    · rw [if_neg (by intro h; simp at h; exact e h)]
      have hr : o ∈ r := by rcases List.mem_cons.1 h with h | h; exact absurd h e; exact h
      have ih := set_in (f := f) (v := v) hr h2
      rw [kvOf] at ih
      rw [ih]
      have : updF f o v y = f y := by simp only [updF]; rw [if_neg (fun h => e h.symm)]
      rw [kvOf, kvOf, List.map_cons, this]
theorem set_out {f : Int → Int} {o v : Int} : ∀ {ks : List Int}, o ∉ ks → setKV [o] [CV.int .i64 v] (kvOf f ks) = kvOf (updF f o v) (ks ++ [o])
  | [], _ => by simp [kvOf, setKV, updF]
  | y :: r, h => by
    rw [kvOf, List.map_cons, setKV, if_neg (by intro e; simp at e; exact h (by simp [e]))]
    have ih := set_out (f := f) (v := v) (o := o) (ks := r) fun e => h (List.mem_cons_of_mem _ e)
    rw [kvOf] at ih
    rw [ih]
    have : updF f o v y = f y := by simp only [updF]; rw [if_neg]; rintro rfl; exact h (by simp)
    rw [kvOf, kvOf, List.cons_append, List.map_cons, this]
theorem look_kv {f : Int → Int} {ks : List Int} {o : Int} (h0 : o ∉ ks → f o = 0) {K : SV → Prop} (hK : K (.c (.int .i64 (f o)))) : (∀ l, findKV [o] (kvOf f ks) = some l → gotV false false l true K) ∧ (findKV [o] (kvOf f ks) = none → gotV false false [.int .i64 0] false K) := by
  by_cases h : o ∈ ks
  · refine ⟨fun l hl => ?_, fun e => by rw [find_in h] at e; cases e⟩
    rw [find_in h] at hl; cases hl; exact hK
  · refine ⟨fun l hl => (by rw [find_out h] at hl; cases hl), fun _ => ?_⟩
    rw [h0 h] at hK; exact hK
/-- What the map of sums holds behind the shares p. -/
structure Sums (p : List Share) (ks : List Int) : Prop where
  nd : ks.Nodup
  mem : ∀ o, o ∈ ks ↔ o ∈ p.map (·.o)
  bnd : ∀ o, -1099511627776 ≤ amt p o ∧ amt p o ≤ 1099511627776
  len : ks.length ≤ p.length
theorem Sums.nil : Sums [] [] := ⟨.nil, fun o => by simp, fun o => by simp [amt], by simp⟩
theorem Sums.zero {p : List Share} {ks : List Int} (h : Sums p ks) {o : Int} (hn : o ∉ ks) : amt p o = 0 := amt_out fun e => hn ((h.mem o).2 e)
theorem Sums.step {p : List Share} {ks : List Int} (h : Sums p ks) {x : Share} {t : Int} (hp : plusF (amt p x.o) x.a = some t) : ∃ ks', Sums (p ++ [x]) ks' ∧ setKV [x.o] [CV.int .i64 t] (kvOf (amt p) ks) = kvOf (amt (p ++ [x])) ks' := by
  have hb := plusF_bnd hp
  have ht : t = amt p x.o + x.a := by
    unfold plusF at hp
    split at hp
    · cases hp
    · cases hp; rfl
  have hu : updF (amt p) x.o t = amt (p ++ [x]) := by
    funext o
    rw [amt_snoc, updF, ht]
    by_cases e : o = x.o
    · rw [if_pos e, if_pos e, e]
    · rw [if_neg e, if_neg e]
  have hbn : ∀ o, -1099511627776 ≤ amt (p ++ [x]) o ∧ amt (p ++ [x]) o ≤ 1099511627776 := by
    intro o
    rw [amt_snoc]
    have := h.bnd o
    split
    · rename_i e; subst e; omega
    · exact this
  by_cases hk : x.o ∈ ks
  · refine ⟨ks, ⟨h.nd, fun o => ?_, hbn, by have := h.len; simp; omega⟩, by rw [set_in hk h.nd, hu]⟩
    rw [h.mem, List.map_append, List.mem_append]
    refine ⟨.inl, fun h' => h'.elim id fun e => ?_⟩
    simp at e; rw [e]; exact (h.mem _).1 hk
  · refine ⟨ks ++ [x.o], ⟨List.nodup_append.2 ⟨h.nd, by simp, fun a ha b hb => by simp at hb; subst hb; rintro rfl; exact hk ha⟩, fun o => ?_, hbn, by have := h.len; simp; omega⟩, by rw [set_out hk, hu]⟩
    rw [List.mem_append, h.mem, List.map_append, List.mem_append]; simp
theorem addO_step {p r all : List Share} {x : Share} (h : addO p (x :: r) = addO [] all) {t : Int} (hp : plusF (amt p x.o) x.a = some t) : addO (p ++ [x]) r = addO [] all := by
  rw [← h, addO, hp]
theorem addO_bad {p r all : List Share} {x : Share} (h : addO p (x :: r) = addO [] all) (hp : plusF (amt p x.o) x.a = none) : addO [] all = false := by
  rw [← h, addO, hp]

/-! ### the reference's table -/
theorem tab_split {p : List Share} {x : Share} {A B : List Share} (h : tabL p = A ++ B) (hA : ∀ z ∈ A, z.o < x.o) (hB : ∀ z ∈ B, x.o < z.o) : tabL (p ++ [x]) = A ++ ⟨x.o, 0 + x.a⟩ :: B := by
  have hk : keysL p = A.map (·.o) ++ B.map (·.o) := by
    have := congrArg (List.map Share.o) h
    rw [tabL, List.map_map, List.map_append] at this
    have e : (keysL p).map (Share.o ∘ fun o => (⟨o, amt p o⟩ : Share)) = keysL p := List.map_id' _
    rwa [e] at this
  have hin : ∀ z ∈ A ++ B, z.a = amt p z.o := by
    intro z hz
    rw [← h] at hz
    obtain ⟨o, _, rfl⟩ := List.mem_map.1 hz
    rfl
  have hx : x.o ∉ p.map (·.o) := by
    rw [← (keysL_spec p).2, hk, List.mem_append]
    rintro (h' | h')
    · obtain ⟨z, hz, e⟩ := List.mem_map.1 h'; have := hA z hz; omega
    · obtain ⟨z, hz, e⟩ := List.mem_map.1 h'; have := hB z hz; omega
  rw [tabL, keysL_snoc, hk, insK_split (fun z hz => by obtain ⟨y, hy, rfl⟩ := List.mem_map.1 hz; exact hA y hy) (fun z hz => by obtain ⟨y, hy, rfl⟩ := List.mem_map.1 hz; exact hB y hy)]
  rw [List.map_append, List.map_cons, List.map_map, List.map_map]
  have e1 : amt (p ++ [x]) x.o = 0 + x.a := by rw [amt_snoc, if_pos rfl, amt_out hx]
  rw [e1]
  have e2 : ∀ l : List Share, (∀ z ∈ l, z ∈ A ++ B) → (∀ z ∈ l, z.o ≠ x.o) → l.map ((fun o => (⟨o, amt (p ++ [x]) o⟩ : Share)) ∘ fun z => z.o) = l := by
    intro l hl hne
    conv => rhs; rw [← List.map_id l]
    refine List.map_congr_left fun z hz => ?_
    show (⟨z.o, amt (p ++ [x]) z.o⟩ : Share) = z
    rw [amt_snoc, if_neg (hne z hz), ← hin z (hl z hz)]
  rw [e2 A (fun z hz => List.mem_append.2 (.inl hz)) (fun z hz => by have := hA z hz; omega), e2 B (fun z hz => List.mem_append.2 (.inr hz)) (fun z hz => by have := hB z hz; omega)]
theorem tab_same {p : List Share} {x y : Share} {A B : List Share} (h : tabL p = A ++ y :: B) (hA : ∀ z ∈ A, z.o < x.o) (hy : y.o = x.o) : tabL (p ++ [x]) = A ++ ⟨x.o, y.a + x.a⟩ :: B := by
  have hk : keysL p = A.map (·.o) ++ x.o :: B.map (·.o) := by
    have := congrArg (List.map Share.o) h
    rw [tabL, List.map_map, List.map_append, List.map_cons, hy] at this
    have e : (keysL p).map (Share.o ∘ fun o => (⟨o, amt p o⟩ : Share)) = keysL p := List.map_id' _
    rwa [e] at this
  have hin : ∀ z ∈ A ++ y :: B, z.a = amt p z.o := by
    intro z hz
    rw [← h] at hz
    obtain ⟨o, _, rfl⟩ := List.mem_map.1 hz
    rfl
  have hs := (keysL_spec p).1
  rw [hk] at hs
  have hB : ∀ z ∈ B, x.o < z.o := fun z hz => (List.pairwise_cons.1 (List.pairwise_append.1 hs).2.1).1 z.o (List.mem_map.2 ⟨z, hz, rfl⟩)
  rw [tabL, keysL_snoc, hk, insK_same (fun z hz => by obtain ⟨y, hy, rfl⟩ := List.mem_map.1 hz; exact hA y hy)]
  rw [List.map_append, List.map_cons, List.map_map, List.map_map]
  have e1 : amt (p ++ [x]) x.o = y.a + x.a := by rw [amt_snoc, if_pos rfl, ← hy, ← hin y (by simp)]
  rw [e1]
  have e2 : ∀ l : List Share, (∀ z ∈ l, z ∈ A ++ y :: B) → (∀ z ∈ l, z.o ≠ x.o) → l.map ((fun o => (⟨o, amt (p ++ [x]) o⟩ : Share)) ∘ fun z => z.o) = l := by
    intro l hl hne
    conv => rhs; rw [← List.map_id l]
    refine List.map_congr_left fun z hz => ?_
    show (⟨z.o, amt (p ++ [x]) z.o⟩ : Share) = z
    rw [amt_snoc, if_neg (hne z hz), ← hin z (hl z hz)]
  rw [e2 A (fun z hz => List.mem_append.2 (.inl hz)) (fun z hz => by have := hA z hz; omega), e2 B (fun z hz => by simp [hz]) (fun z hz => by have := hB z hz; omega)]
end Go.Proofs.Ytepacknnggnifaa
