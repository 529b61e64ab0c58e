/- Rides: what gaps are. -/
import Derived.Test.YtfghmpfiemmbgaaG5
namespace Go.Proofs.Ytfghmpfiemmbgaa
open Go.RowKit

/-- The numbers of a gate's rides. -/
def seqs (l : List Ride) (g : Int) : List Int := (l.filter fun r => decide (r.gate = g)).map (·.seq)
theorem mem_seqs {l : List Ride} {g n : Int} : n ∈ seqs l g ↔ ∃ r ∈ l, r.gate = g ∧ r.seq = n := by
  simp [seqs, and_assoc]
theorem seqs_inc {l : List Ride} (g : Int) (h : Sorted l) : (seqs l g).Pairwise (· < ·) := by
  unfold seqs
  rw [List.pairwise_map]
  refine (h.filter _).imp_of_mem ?_
  intro a b ha hb hab
  have h1 := of_decide_eq_true (List.mem_filter.1 ha).2
  have h2 := of_decide_eq_true (List.mem_filter.1 hb).2
  unfold before at hab
  omega
theorem upto_seqs (g : Int) : ∀ (l : List Ride) (n : Int), l.foldl (uptoStep g) n = (seqs l g).foldl (fun n s => if s = n + 1 then n + 1 else n) n
  | [], n => rfl
  | r :: l, n => by
    rw [List.foldl_cons, upto_seqs g l]
    unfold uptoStep
    by_cases h : r.gate = g
    · simp [seqs, h]
    · simp [seqs, h]
/-- The gaps, m at most, from n on. -/
def gS : Nat → Int → List Int → List Int
  | _, _, [] => []
  | m, n, s :: r => fill m n s ++ gS (m - (fill m n s).length) (s + 1) r
theorem gaps_seqs (g : Int) : ∀ (l : List Ride) (n : Int) (out : List Int), out.length ≤ 100 → (l.foldl (gapsStep g) (n, out)).2 = out ++ gS (100 - out.length) n (seqs l g)
  | [], n, out, _ => by simp [seqs, gS]
  | r :: l, n, out, ho => by
    rw [List.foldl_cons]
    unfold gapsStep
    by_cases h : r.gate = g
    · have hs : seqs (r :: l) g = r.seq :: seqs l g := by simp [seqs, h]
      have hf := fill_len (100 - out.length) n r.seq
      rw [if_pos h, hs, gS]
      dsimp only
      have := gaps_seqs g l (r.seq + 1) (out ++ fill (100 - out.length) n r.seq) (by simp; omega)
      unfold gapsStep at this
      rw [this, List.append_assoc]
      congr 3
      simp; omega
    · have hs : seqs (r :: l) g = seqs l g := by simp [seqs, h]
      rw [if_neg h, hs]
      have := gaps_seqs g l n out ho
      unfold gapsStep at this
      exact this
theorem gaps_eq (l : List Ride) (g : Int) : gaps l g = gS 100 1 (seqs l g) := by
  have := gaps_seqs g l 1 [] (by simp)
  simpa [gaps] using this
theorem upto_eq (l : List Ride) (g : Int) : upto l g = (seqs l g).foldl (fun n s => if s = n + 1 then n + 1 else n) 0 := upto_seqs g l 0

theorem mem_fill : ∀ {m : Nat} {n s x : Int}, x ∈ fill m n s → n ≤ x ∧ x < s
  | 0, n, s, x, h => by simp [fill] at h
  | m + 1, n, s, x, h => by
    rw [fill] at h
    split at h
    · rcases List.mem_cons.1 h with rfl | h
      · omega
      · have := mem_fill h; omega
    · simp at h
theorem fill_inc : ∀ (m : Nat) (n s : Int), (fill m n s).Pairwise (· < ·)
  | 0, n, s => by simp [fill]
  | m + 1, n, s => by
    rw [fill]
    split
    · exact List.pairwise_cons.2 ⟨fun x hx => by have := mem_fill hx; omega, fill_inc m (n + 1) s⟩
    · simp
theorem fill_all : ∀ (m : Nat) (n s x : Int), (fill m n s).length < m → n ≤ x → x < s → x ∈ fill m n s
  | 0, n, s, x, h, _, _ => by omega
  | m + 1, n, s, x, h, h1, h2 => by
    rw [fill, if_pos (by omega)] at h ⊢
    by_cases e : x = n
    · subst e; simp
    · exact List.mem_cons_of_mem _ (fill_all m (n + 1) s x (by simp at h; omega) (by omega) h2)
theorem gS_mem : ∀ {S : List Int} {m : Nat} {n x : Int}, S.Pairwise (· < ·) → (∀ s ∈ S, n ≤ s) → x ∈ gS m n S → n ≤ x ∧ x ∉ S ∧ ∀ d, x < S.getLastD d
  | [], m, n, x, _, _, h => by simp [gS] at h
  | s :: r, m, n, x, hp, hn, h => by
    obtain ⟨hp1, hp2⟩ := List.pairwise_cons.1 hp
    rw [gS] at h
    rcases List.mem_append.1 h with h | h
    · have hx := mem_fill h
      refine ⟨hx.1, fun hm => ?_, fun d => ?_⟩
      · rcases List.mem_cons.1 hm with rfl | hm
        · omega
        · have := hp1 x hm; omega
      · have : s ≤ (s :: r).getLastD d := by
          cases r with
          | nil => simp
          | cons y t =>
            have := hp1 ((y :: t).getLast (by simp)) (List.getLast_mem _)
            simp only [List.getLastD_eq_getLast?] at *
            rw [List.getLast?_eq_some_getLast (by simp)]
            simp at this ⊢; omega
        omega
    · obtain ⟨g1, g2, g3⟩ := gS_mem hp2 (fun y hy => by have := hp1 y hy; omega) h
      have := hn s (by simp)
      refine ⟨by omega, fun hm => ?_, fun d => by rw [List.getLastD_cons]; exact g3 s⟩
      rcases List.mem_cons.1 hm with rfl | hm
      · omega
      · exact g2 hm
theorem gS_inc : ∀ (S : List Int) (m : Nat) (n : Int), S.Pairwise (· < ·) → (gS m n S).Pairwise (· < ·)
  | [], m, n, _ => by simp [gS]
  | s :: r, m, n, hp => by
    obtain ⟨hp1, hp2⟩ := List.pairwise_cons.1 hp
    rw [gS, List.pairwise_append]
    refine ⟨fill_inc m n s, gS_inc r _ _ hp2, fun a ha b hb => ?_⟩
    have h1 := mem_fill ha
    have h2 := (gS_mem hp2 (fun y hy => by have := hp1 y hy; omega) hb).1
    omega
theorem gS_len : ∀ (S : List Int) (m : Nat) (n : Int), (gS m n S).length ≤ m
  | [], m, n => by simp [gS]
  | s :: r, m, n => by
    have h1 := fill_len m n s
    have h2 := gS_len r (m - (fill m n s).length) (s + 1)
    rw [gS, List.length_append]; omega
theorem gS_all : ∀ (S : List Int) (m : Nat) (n d x : Int), S.Pairwise (· < ·) → (∀ s ∈ S, n ≤ s) → (gS m n S).length < m → n ≤ x → S ≠ [] → x ≤ S.getLastD d → x ∈ S ∨ x ∈ gS m n S
  | [], m, n, d, x, _, _, _, _, h, _ => absurd rfl h
  | s :: r, m, n, d, x, hp, hn, hl, h1, _, h2 => by
    obtain ⟨hp1, hp2⟩ := List.pairwise_cons.1 hp
    rw [gS, List.length_append] at hl
    rw [gS]
    by_cases e : x < s
    · exact .inr (List.mem_append.2 (.inl (fill_all m n s x (by omega) h1 e)))
    · by_cases e2 : x = s
      · exact .inl (by simp [e2])
      · by_cases hr : r = []
        · subst hr; simp at h2; omega
        · rcases gS_all r (m - (fill m n s).length) (s + 1) s x hp2 (fun y hy => by have := hp1 y hy; omega) (by omega) (by omega) hr (by rw [List.getLastD_cons] at h2; exact h2) with h | h
          · exact .inl (List.mem_cons_of_mem _ h)
          · exact .inr (List.mem_append.2 (.inr h))
abbrev upS (n s : Int) : Int := if s = n + 1 then n + 1 else n
theorem upS_stay : ∀ (S : List Int) (n : Int), (∀ s ∈ S, n + 1 < s) → S.foldl upS n = n
  | [], n, _ => rfl
  | s :: r, n, h => by
    rw [List.foldl_cons, show upS n s = n from if_neg (by have := h s (by simp); omega)]
    exact upS_stay r n fun y hy => h y (by simp [hy])
theorem upS_gap : ∀ (S : List Int) (m : Nat) (n : Int), 0 < m → S.Pairwise (· < ·) → (∀ s ∈ S, n + 1 ≤ s) →
    (gS m (n + 1) S = [] → S.foldl upS n = S.getLastD n) ∧ ∀ x t, gS m (n + 1) S = x :: t → S.foldl upS n = x - 1
  | [], m, n, _, _, _ => ⟨fun _ => rfl, fun x t h => by simp [gS] at h⟩
  | s :: r, m, n, hm, hp, hn => by
    obtain ⟨hp1, hp2⟩ := List.pairwise_cons.1 hp
    have hs := hn s (by simp)
    by_cases e : s = n + 1
    · subst e
      have hf : fill m (n + 1) (n + 1) = [] := by
        cases m with
        | zero => rfl
        | succ m => rw [fill, if_neg (by omega)]
      have hg : gS m (n + 1) ((n + 1) :: r) = gS m (n + 1 + 1) r := by rw [gS, hf]; simp
      obtain ⟨i1, i2⟩ := upS_gap r m (n + 1) hm hp2 (fun y hy => by have := hp1 y hy; omega)
      rw [hg, List.foldl_cons, show upS n (n + 1) = n + 1 from if_pos rfl]
      exact ⟨fun h => by rw [i1 h, List.getLastD_cons], i2⟩
    · have hst : (s :: r).foldl upS n = n := upS_stay _ _ fun y hy => by
        rcases List.mem_cons.1 hy with rfl | hy
        · omega
        · have := hp1 y hy; omega
      obtain ⟨t, ht⟩ : ∃ t, gS m (n + 1) (s :: r) = (n + 1) :: t := by
        cases m with
        | zero => omega
        | succ m => rw [gS, fill, if_pos (by omega)]; exact ⟨_, rfl⟩
      rw [hst, ht]
      refine ⟨fun h => absurd h (by simp), fun x t' h => ?_⟩
      cases h; omega

/-- The greatest number of a gate. -/
def great (l : List Ride) (g : Int) : Int := (seqs l g).getLastD 0
theorem great_step {l : List Ride} {g : Int} {k : Nat} {x : Ride} (hx : l[k]? = some x) : great (l.take (k + 1)) g = if x.gate = g then x.seq else great (l.take k) g := by
  rw [great, take_snoc _ _ _ hx, seqs, List.filter_append, List.map_append]
  by_cases h : x.gate = g
  · rw [if_pos h]; simp [h]
  · rw [if_neg h]; simp [h, great, seqs]
section
variable {l : List Ride} {g : Int} (hs : Sorted l) (hok : ∀ x ∈ l, okR x)
include hs hok
omit hs in
theorem seqs_pos : ∀ n ∈ seqs l g, (1 : Int) ≤ n := by
  intro n hn
  obtain ⟨r, hr, _, rfl⟩ := mem_seqs.1 hn
  have := hok r hr; unfold okR at this; omega
theorem gaps_none (h : gaps l g = []) : upto l g = great l g := by
  rw [gaps_eq] at h
  rw [upto_eq]
  exact (upS_gap (seqs l g) 100 0 (by decide) (seqs_inc g hs) (seqs_pos hok)).1 h
theorem gaps_some {x : Int} {t : List Int} (h : gaps l g = x :: t) : upto l g = x - 1 := by
  rw [gaps_eq] at h
  rw [upto_eq]
  exact (upS_gap (seqs l g) 100 0 (by decide) (seqs_inc g hs) (seqs_pos hok)).2 x t h
theorem gaps_mem {x : Int} (h : x ∈ gaps l g) : 1 ≤ x ∧ (∀ r ∈ l, r.gate = g → r.seq ≠ x) ∧ x < great l g := by
  rw [gaps_eq] at h
  obtain ⟨h1, h2, h3⟩ := gS_mem (seqs_inc g hs) (seqs_pos hok) h
  exact ⟨h1, fun r hr hg e => h2 (mem_seqs.2 ⟨r, hr, hg, e⟩), h3 0⟩
omit hok in
theorem gaps_inc : (gaps l g).Pairwise (· < ·) := by rw [gaps_eq]; exact gS_inc _ _ _ (seqs_inc g hs)
omit hs in
theorem great_bd : great l g ≤ 1000000 := by
  unfold great
  rw [List.getLastD_eq_getLast?]
  cases h : (seqs l g).getLast? with
  | none => simp
  | some n =>
    obtain ⟨r, hr, _, rfl⟩ := mem_seqs.1 (List.mem_of_getLast? h)
    have := hok r hr; unfold okR at this; simp; omega
/-- With the missing rides there are no gaps. -/
theorem gaps_filled (hl : (gaps l g).length ≠ 100) {x : List Ride} (xs : Sorted x) (xok : ∀ y ∈ x, okR y) (h : ∀ n, n ∈ seqs x g ↔ n ∈ seqs l g ∨ n ∈ gaps l g) : gaps x g = [] ∧ upto x g = great l g := by
  have hll : (gS 100 1 (seqs l g)).length < 100 := by have := gS_len (seqs l g) 100 1; rw [gaps_eq] at hl; omega
  -- all numbers up to the greatest are there
  have hall : ∀ n, 1 ≤ n → n ≤ great l g → n ∈ seqs x g := by
    intro n h1 h2
    have hne : seqs l g ≠ [] := by
      intro e
      rw [great, e] at h2
      simp at h2
      omega
    rcases gS_all (seqs l g) 100 1 0 n (seqs_inc g hs) (seqs_pos hok) hll h1 hne h2 with h' | h'
    · exact (h n).2 (.inl h')
    · exact (h n).2 (.inr (by rw [gaps_eq]; exact h'))
  have hle : ∀ n ∈ seqs x g, n ≤ great l g := by
    intro n hn
    rcases (h n).1 hn with h' | h'
    · unfold great
      have hinc := seqs_inc g hs
      generalize seqs l g = S at *
      clear hall hll h
      have : ∀ (S : List Int) (d : Int), S.Pairwise (· < ·) → n ∈ S → n ≤ S.getLastD d := by
        intro S
        induction S with
        | nil => intro d _ hm; simp at hm
        | cons s r ih =>
          intro d hp hm
          obtain ⟨p1, p2⟩ := List.pairwise_cons.1 hp
          rw [List.getLastD_cons]
          rcases List.mem_cons.1 hm with rfl | hm
          · cases hr : r with
            | nil => simp
            | cons y t =>
              have := ih n p2
              rw [← hr]
              have hy := p1 (r.getLastD n) (by rw [hr, List.getLastD_eq_getLast?, List.getLast?_eq_some_getLast (by simp)]; exact List.getLast_mem _)
              omega
          · exact ih s p2 hm
      exact this S 0 hinc h'
    · have := (gaps_mem hs hok h').2.2; omega
  have hgr : great x g = great l g := by
    by_cases h0 : 1 ≤ great l g
    · have hm := hall _ h0 (Int.le_refl _)
      have h1 : great x g ∈ seqs x g := by
        unfold great
        rw [List.getLastD_eq_getLast?]
        cases hc : (seqs x g).getLast? with
        | none => rw [List.getLast?_eq_none_iff.1 hc] at hm; simp at hm
        | some n => exact List.mem_of_getLast? hc
      have h2 := hle _ h1
      by_cases e : great x g = great l g
      · exact e
      · exfalso
        -- the greatest of l is among x's numbers, so it is not beyond x's greatest
        have hinc := seqs_inc g xs
        have hlast : ∀ (S : List Int) (d : Int), S.Pairwise (· < ·) → ∀ n ∈ S, n ≤ S.getLastD d := by
          intro S
          induction S with
          | nil => intro d _ n hm; simp at hm
          | cons s r ih =>
            intro d hp n hm
            obtain ⟨p1, p2⟩ := List.pairwise_cons.1 hp
            rw [List.getLastD_cons]
            rcases List.mem_cons.1 hm with rfl | hm
            · cases hr : r with
              | nil => simp
              | cons y t =>
                rw [← hr]
                have hy := p1 (r.getLastD n) (by rw [hr, List.getLastD_eq_getLast?, List.getLast?_eq_some_getLast (by simp)]; exact List.getLast_mem _)
                omega
            · exact ih s p2 n hm
        have := hlast _ 0 hinc _ hm
        unfold great at *
        omega
    · have hn : seqs x g = [] := by
        cases hc : seqs x g with
        | nil => rfl
        | cons y t =>
          have h1 := seqs_pos xok y (by rw [hc]; simp)
          have h2 := hle y (by rw [hc]; simp)
          omega
      have hn' : seqs l g = [] := by
        cases hc : seqs l g with
        | nil => rfl
        | cons y t =>
          have := (h y).2 (.inl (by rw [hc]; simp))
          rw [hn] at this; simp at this
      unfold great; rw [hn, hn']
  have hg : gaps x g = [] := by
    cases hc : gaps x g with
    | nil => rfl
    | cons y t =>
      have hy := gaps_mem xs xok (g := g) (by rw [hc]; simp : y ∈ gaps x g)
      have := hall y hy.1 (by rw [← hgr]; omega)
      obtain ⟨r, hr, h1, h2⟩ := mem_seqs.1 this
      exact absurd h2 (hy.2.1 r hr h1)
  exact ⟨hg, by rw [gaps_none xs xok hg, hgr]⟩
end
theorem get_rowi {α : Type} {f : α → List CV} {xs : List α} {i : Int} {j : Nat} {x : α} {r : List CV} (hr : (xs.map f)[i.toNat]? = some r) (hi : i = j) (hx : xs[j]? = some x) : r = f x := by
  subst hi; exact get_row hr hx
theorem get_row1 {α : Type} {f : α → List CV} {xs : List α} {k : Nat} {x : α} {r : List CV} (hr : (xs.map f)[((k : Int) - 1).toNat]? = some r) (h0 : 0 < k) (hx : xs[k - 1]? = some x) : r = f x :=
  get_rowi hr (by omega) hx
/-- The ride that fills a gap. -/
def gapR (g n : Int) : Ride := ⟨g, n, 5, n, 3, 9, 7⟩
/-- What stands after k gaps are filled. -/
structure Filled (l : List Ride) (g : Int) (k : Nat) (x : List Ride) : Prop where
  sorted : Sorted x
  ok : ∀ y ∈ x, okR y
  len : x.length = l.length + k
  mem : ∀ y, y ∈ x ↔ y ∈ l ∨ ∃ n ∈ (gaps l g).take k, y = gapR g n
theorem Filled.start {l : List Ride} {g : Int} (hs : Sorted l) (hok : ∀ x ∈ l, okR x) : Filled l g 0 l := ⟨hs, hok, rfl, by simp⟩
theorem Filled.step {l x : List Ride} {g : Int} {k : Nat} {n : Int} (hs : Sorted l) (hok : ∀ x ∈ l, okR x) (h1 : 1 ≤ g) (h2 : g ≤ 9999) (h : Filled l g k x) (hn : (gaps l g)[k]? = some n) :
    okR (gapR g n) ∧ ∃ m, IsMerge x [gapR g n] m ∧ x.length < m.length ∧ Filled l g (k + 1) m := by
  have hm := gaps_mem hs hok (List.mem_of_getElem? hn)
  have hb := great_bd (g := g) hok
  have hr : okR (gapR g n) := by unfold okR gapR; simp only; omega
  have hfr : ∀ s ∈ x, key s ≠ key (gapR g n) := by
    intro s hsx hk
    obtain ⟨k1, k2⟩ := key_eq.1 hk
    rcases (h.mem s).1 hsx with hl | ⟨n', hn', rfl⟩
    · exact hm.2.1 s hl k1 k2
    · have e : n' = n := k2
      subst e
      obtain ⟨j, hj, hj2⟩ := List.mem_take_iff_getElem.1 hn'
      obtain ⟨hkl, hk2⟩ := List.getElem?_eq_some_iff.1 hn
      have := List.pairwise_iff_getElem.1 (gaps_inc (g := g) hs) j k (by omega) hkl (by omega)
      rw [hj2, hk2] at this
      omega
  have hnc : ¬ conflict x [gapR g n] := by
    rintro ⟨r, hr', s, hs', hk, _⟩
    simp at hr'; subst hr'
    exact hfr s hs' hk
  obtain ⟨ys, hp, hss⟩ := exists_sorted (x ++ [gapR g n].filter (fresh x))
  have hmm := isMerge_of h.sorted (by simp) (agree_iff.2 hnc) hp hss
  have hf : [gapR g n].filter (fresh x) = [gapR g n] := by simp [fresh_iff.2 hfr]
  have hl : ys.length = x.length + 1 := by rw [hp.length_eq, hf]; simp
  refine ⟨hr, ys, hmm, by omega, hmm.1, fun y hy => ?_, by rw [hl, h.len]; omega, fun y => ?_⟩
  · rcases (hmm.2 y).1 hy with h' | h'
    · exact h.ok y h'
    · simp at h'; subst h'; exact hr
  · rw [hmm.2, h.mem, take_snoc _ _ _ hn]
    simp only [List.mem_append, List.mem_singleton]
    constructor
    · rintro ((h' | ⟨n', h', rfl⟩) | rfl)
      · exact .inl h'
      · exact .inr ⟨n', .inl h', rfl⟩
      · exact .inr ⟨n, .inr rfl, rfl⟩
    · rintro (h' | ⟨n', h' | rfl, rfl⟩)
      · exact .inl (.inl h')
      · exact .inl (.inr ⟨n', h', rfl⟩)
      · exact .inr rfl
theorem Filled.done {l x : List Ride} {g : Int} {k : Nat} (hs : Sorted l) (hok : ∀ x ∈ l, okR x) (h : Filled l g k x) (hk : ¬ k < (gaps l g).length) (hl : (gaps l g).length ≠ 100) : gaps x g = [] ∧ upto x g = great l g := by
  refine gaps_filled hs hok hl h.sorted h.ok fun n => ?_
  rw [mem_seqs, mem_seqs]
  have ht : (gaps l g).take k = gaps l g := List.take_of_length_le (by omega)
  constructor
  · rintro ⟨r, hr, h1, h2⟩
    rcases (h.mem r).1 hr with h' | ⟨n', h', rfl⟩
    · exact .inl ⟨r, h', h1, h2⟩
    · rw [ht] at h'; exact .inr (by rw [← h2]; exact h')
  · rintro (⟨r, hr, h1, h2⟩ | h')
    · exact ⟨r, (h.mem r).2 (.inl hr), h1, h2⟩
    · exact ⟨gapR g n, (h.mem _).2 (.inr ⟨n, by rw [ht]; exact h', rfl⟩), rfl, rfl⟩
end Go.Proofs.Ytfghmpfiemmbgaa
