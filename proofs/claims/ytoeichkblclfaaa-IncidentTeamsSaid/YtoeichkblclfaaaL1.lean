/- Shortest paths, the reference's: plain. -/
import Derived.Test.YtoeichkblclfaaaK6
namespace Go.Proofs.Ytoeichkblclfaaa
open Go.RowKit
/-- An increasing list with a number that it may have already. -/
def putF (n : Int) : List Int → List Int
  | [] => [n]
  | x :: r => if n ≤ x then (if n < x then n :: x :: r else x :: r) else x :: putF n r
theorem put_mem (n x : Int) : ∀ l : List Int, x ∈ putF n l ↔ x = n ∨ x ∈ l
  | [] => by simp [putF]
  | y :: r => by
    unfold putF
    have ih := put_mem n x r
    split
    · split
      · simp
      · have : y = n := by omega
        subst this; simp
    · rw [List.mem_cons, ih, List.mem_cons]; exact ⟨fun h => by rcases h with h | h | h <;> simp [h], fun h => by rcases h with h | h | h <;> simp [h]⟩
theorem put_len (n : Int) : ∀ l : List Int, (putF n l).length ≤ l.length + 1
  | [] => by simp [putF]
  | y :: r => by
    unfold putF
    have ih := put_len n r
    split
    · split <;> simp
    · simp only [List.length_cons]; omega
def nodesF (l : List Ed) : List Int := l.foldl (fun o e => putF e.to (putF e.fr o)) []
theorem nodes_gen : ∀ (l : List Ed) (o : List Int), ((l.foldl (fun o e => putF e.to (putF e.fr o)) o).length ≤ o.length + 2 * l.length) ∧ ∀ x, (x ∈ l.foldl (fun o e => putF e.to (putF e.fr o)) o ↔ x ∈ o ∨ ∃ e ∈ l, x = e.fr ∨ x = e.to)
  | [], o => ⟨by simp, fun x => by simp⟩
  | e :: r, o => by
    obtain ⟨h1, h2⟩ := nodes_gen r (putF e.to (putF e.fr o))
    have g1 := put_len e.to (putF e.fr o)
    have g2 := put_len e.fr o
    refine ⟨by rw [List.foldl_cons, List.length_cons]; omega, fun x => ?_⟩
    rw [List.foldl_cons, h2, put_mem, put_mem]
    constructor
    · rintro ((h | h | h) | ⟨f, hf, h⟩)
      · exact .inr ⟨e, by simp, .inr h⟩
      · exact .inr ⟨e, by simp, .inl h⟩
      · exact .inl h
      · exact .inr ⟨f, by simp [hf], h⟩
    · rintro (h | ⟨f, hf, h⟩)
      · exact .inl (.inr (.inr h))
      · rcases List.mem_cons.1 hf with rfl | hf
        · rcases h with h | h
          · exact .inl (.inr (.inl h))
          · exact .inl (.inl h)
        · exact .inr ⟨f, hf, h⟩
theorem nodes_len (l : List Ed) : (nodesF l).length ≤ 2 * l.length := by have := (nodes_gen l []).1; simpa [nodesF] using this
theorem nodes_mem {l : List Ed} {e : Ed} (h : e ∈ l) : e.fr ∈ nodesF l ∧ e.to ∈ nodesF l :=
  ⟨((nodes_gen l []).2 _).2 (.inr ⟨e, h, .inl rfl⟩), ((nodes_gen l []).2 _).2 (.inr ⟨e, h, .inr rfl⟩)⟩
/-- A label. -/
structure Lb where
  n : Int
  c : Int
  k : Int
  ok : Bool
abbrev encP (x : Lb) : List CV := [.int .i64 x.n, .int .i64 x.c, .int .i64 x.k, .bool x.ok]
abbrev aP (x : Lb) : SV := .agg ((encP x).map .c)
def labOf (n : Int) : Option Lab → Lb
  | none => ⟨n, 0, 0, false⟩
  | some v => ⟨n, v.c, v.k, true⟩
theorem labOf_n (n : Int) (o : Option Lab) : (labOf n o).n = n := by cases o <;> rfl
def findP (t : List Lb) (n : Int) : Lb := (firstOf (fun x => decide (x.n = n)) t).getD ⟨n, 0, 0, false⟩
def lessP (a b : Lb) : Bool := if a.ok = true ∧ b.ok = true then decide (a.c < b.c ∨ (a.c = b.c ∧ a.k < b.k)) else a.ok && !b.ok
def thrP (e : Ed) (x : Lb) : Lb := ⟨e.fr, x.c + e.cost, x.k + 1, x.ok⟩
def tabP (N : List Int) (D : DM) : List Lb := N.map fun n => labOf n (D n)
/-- Labels are there for listed nodes alone. -/
def Supp (N : List Int) (D : DM) : Prop := ∀ n v, D n = some v → n ∈ N
theorem find_tab {N : List Int} {D : DM} (h : Supp N D) (n : Int) : findP (tabP N D) n = labOf n (D n) := by
  unfold findP
  by_cases hn : n ∈ N
  · have : ∀ M : List Int, n ∈ M → firstOf (fun x : Lb => decide (x.n = n)) (M.map fun n => labOf n (D n)) = some (labOf n (D n)) := by
      intro M
      induction M with
      | nil => intro h; cases h
      | cons m r ih =>
        intro h
        unfold firstOf at ih ⊢
        rw [List.map_cons, List.find?_cons]
        by_cases e : m = n
        · subst e; rw [labOf_n]; simp
        · rw [labOf_n, decide_eq_false e]
          exact ih ((List.mem_cons.1 h).resolve_left fun q => e q.symm)
    unfold tabP
    rw [this N hn]; rfl
  · have hd : D n = none := by
      cases hd : D n with
      | none => rfl
      | some v => exact absurd (h n v hd) hn
    have : firstOf (fun x : Lb => decide (x.n = n)) (tabP N D) = none := by
      apply first_none
      intro y hy
      obtain ⟨m, hm, rfl⟩ := List.mem_map.1 hy
      rw [labOf_n]; exact decide_eq_false fun e => hn (e ▸ hm)
    rw [this, hd]; rfl
theorem less_none {D : DM} {e : Ed} (h : betterO D e = none) : lessP (thrP e (labOf e.to (D e.to))) (labOf e.fr (D e.fr)) = false := by
  cases hw : D e.to with
  | none => rfl
  | some w =>
    obtain ⟨o, ho, hl⟩ := better_none h hw
    rw [ho]
    unfold lessP labOf thrP
    dsimp only
    rw [if_pos ⟨rfl, rfl⟩]
    exact hl
theorem less_some {D : DM} {e : Ed} {v : Lab} (h : betterO D e = some v) : thrP e (labOf e.to (D e.to)) = labOf e.fr (some v) ∧ lessP (thrP e (labOf e.to (D e.to))) (labOf e.fr (D e.fr)) = true := by
  obtain ⟨w, hw, hv, hl⟩ := better_some h
  have ht : thrP e (labOf e.to (D e.to)) = labOf e.fr (some v) := by rw [hw, hv]; rfl
  refine ⟨ht, ?_⟩
  rw [ht]
  cases ho : D e.fr with
  | none => rfl
  | some o =>
    have := hl o ho
    unfold lessP labOf
    dsimp only
    rw [if_pos ⟨rfl, rfl⟩]
    exact this
/-- A table of which the first k labels are new. -/
def mixP (N : List Int) (D' D : DM) (k : Nat) : List Lb := tabP (N.take k) D' ++ tabP (N.drop k) D
theorem mix_zero (N : List Int) (D' D : DM) : mixP N D' D 0 = tabP N D := rfl
theorem mix_all (N : List Int) (D' D : DM) : mixP N D' D N.length = tabP N D' := by unfold mixP; rw [List.take_length, List.drop_length]; simp [tabP]
theorem mix_len (N : List Int) (D' D : DM) {k : Nat} (h : k ≤ N.length) : (mixP N D' D k).length = N.length := by
  unfold mixP tabP; rw [List.length_append, List.length_map, List.length_map, List.length_take, List.length_drop]; omega
theorem mix_get {N : List Int} {D' D : DM} {k : Nat} {n : Int} (h : N[k]? = some n) : (mixP N D' D k)[k]? = some (labOf n (D n)) := by
  have hk := (List.getElem?_eq_some_iff.1 h).1
  unfold mixP tabP
  rw [List.getElem?_append_right (by rw [List.length_map, List.length_take]; omega), List.length_map, List.length_take, Nat.min_eq_left (by omega), Nat.sub_self, List.getElem?_map, List.getElem?_drop, Nat.add_zero, h]
  rfl
theorem mix_next {N : List Int} {D' D : DM} {k : Nat} {n : Int} (h : N[k]? = some n) : mixP N D' D (k + 1) = (mixP N D' D k).set k (labOf n (D' n)) := by
  have hk := (List.getElem?_eq_some_iff.1 h).1
  have hl : (tabP (N.take k) D').length = k := by unfold tabP; rw [List.length_map, List.length_take]; omega
  unfold mixP
  rw [List.set_append_right _ _ (by omega), hl, Nat.sub_self, take_snoc N k n h]
  have hd : N.drop k = n :: N.drop (k + 1) := by
    rw [← (List.getElem?_eq_some_iff.1 h).2]; exact List.drop_eq_getElem_cons hk
  rw [hd]
  simp [tabP]
theorem mix_same {N : List Int} {D' D : DM} {k : Nat} {n : Int} (h : N[k]? = some n) (e : D' n = D n) : mixP N D' D (k + 1) = mixP N D' D k := by
  rw [mix_next h, e]
  have hg := mix_get (D' := D') (D := D) h
  obtain ⟨h1, h2⟩ := List.getElem?_eq_some_iff.1 hg
  rw [← h2]; exact List.set_getElem_self h1
theorem least_none {E : List Ed} {t : Int} {D : DM} (h : Least E t D) : ∀ e ∈ E, betterO D e = none := by
  intro e he
  cases hb : betterO D e with
  | none => rfl
  | some v =>
    obtain ⟨w, hw, hv, hl⟩ := better_some hb
    obtain ⟨o, ho, hq⟩ := h.all _ _ (Wk.cons he (h.sound _ _ hw))
    rw [← hv] at hq
    rw [hl o ho] at hq; cases hq
theorem chg_none : ∀ {E : List Ed} {ms : List (Int × Lab)}, (∀ e ∈ E, betterO (getM ms) e = none) → chgT E ms = false ∧ passT E ms = ms
  | [], ms, _ => ⟨by simp [chgT], rfl⟩
  | e :: r, ms, h => by
    have hb := h e (by simp)
    have hs : stepT ms e = ms := by unfold stepT; rw [hb]
    obtain ⟨h1, h2⟩ := chg_none (E := r) (ms := ms) fun f hf => h f (by simp [hf])
    refine ⟨?_, ?_⟩
    · rw [chgT, hb, hs, h1]; rfl
    · show passT r (stepT ms e) = ms
      rw [hs]; exact h2
/-- A pass over the least labels changes nothing. -/
theorem RndI.last {E : List Ed} {t : Int} {ms ms' : List (Int × Lab)} {ch : Bool} {B : Int} (hE : OkE E) (h : RndI E t E.length ms) (hp : PassI E ms B E.length ms' ch) : ch = false ∧ ms' = lengthsF E t := by
  have hN : ms = lengthsF E t := by rw [← h.tab, Nat.sub_self, roundsT]
  have hL := lengths_least hE t
  rw [← hN] at hL
  obtain ⟨h1, h2⟩ := chg_none (least_none hL)
  obtain ⟨_, g2, g3, _⟩ := hp
  rw [List.drop_length] at g2 g3
  have g3' : ch = chgT E ms := by rw [← g3, chgT]; simp
  have g2' : ms' = passT E ms := g2
  exact ⟨g3'.trans h1, by rw [g2', h2, hN]⟩
theorem Supp.put {N : List Int} {ms : List (Int × Lab)} {n : Int} {v : Lab} (h : Supp N (getM ms)) (hn : n ∈ N) : Supp N (getM (putM n v ms)) := by
  intro m w hw
  rw [getM_put] at hw
  unfold setD at hw
  split at hw
  · rename_i e; exact e ▸ hn
  · exact h m w hw
theorem getM_other {ms : List (Int × Lab)} {n m : Int} {v : Lab} (h : m ≠ n) : getM (putM n v ms) m = getM ms m := by rw [getM_put]; exact if_neg h
theorem getM_same {ms : List (Int × Lab)} {n : Int} {v : Lab} : getM (putM n v ms) n = some v := by rw [getM_put]; exact if_pos rfl
theorem supp_least {E : List Ed} {t : Int} (hE : OkE E) : Supp (putF t (nodesF E)) (getM (lengthsF E t)) := by
  intro n v h
  have hw := (lengths_least hE t).sound n v h
  rw [put_mem]
  cases hw with
  | nil => exact .inl rfl
  | cons he _ => exact .inr (nodes_mem he).1

end Go.Proofs.Ytoeichkblclfaaa
