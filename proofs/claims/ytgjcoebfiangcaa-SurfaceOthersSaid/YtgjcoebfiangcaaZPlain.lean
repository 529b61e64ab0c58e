/- Plain definitions and facts for the surfaces of runs: no program in sight. -/
namespace Go.Proofs.Ytgjcoebfiangcaa.Old

/-- A surface: the run, when it was groomed, the descents since then. -/
structure Surf where
  run : Int
  groomed : Int
  traffic : Int

instance : DecidableEq Surf := fun a b =>
  if h : a.run = b.run ∧ a.groomed = b.groomed ∧ a.traffic = b.traffic then isTrue (by cases a; cases b; simp_all) else isFalse (by rintro rfl; simp at h)

/-- The fields are in their ranges. -/
def okS (x : Surf) : Prop := 1 ≤ x.run ∧ x.run ≤ 9999 ∧ -1 ≤ x.groomed ∧ x.groomed ≤ 20000000 ∧ 0 ≤ x.traffic ∧ x.traffic ≤ 1000000
instance (x : Surf) : Decidable (okS x) := by unfold okS; infer_instance

theorem drop_of {α : Type} {xs : List α} {k : Nat} {x : α} (hx : xs[k]? = some x) : xs.drop k = x :: xs.drop (k + 1) := by
  obtain ⟨hk, rfl⟩ := List.getElem?_eq_some_iff.1 hx
  exact List.drop_eq_getElem_cons hk
theorem drop_end {α : Type} {xs : List α} {k : Nat} (hk : ¬ k < xs.length) : xs.drop k = [] := List.drop_eq_nil_of_le (by omega)

/-- The first error behind a surface of the run p. -/
def rightFrom : Int → List Surf → Int
  | _, [] => 0
  | p, x :: r => if okS x then (if x.run ≤ p then 11 else rightFrom x.run r) else 2

/-- The first error of surfaces; the run of the first one is greater than 0 where its fields are in their ranges. -/
def right (l : List Surf) : Int := if 64 < l.length then 4 else rightFrom 0 l

/-- What Right knows at the head of round k. -/
def RightAt (xs : List Surf) (k : Nat) : Prop := ∃ p : Int, rightFrom 0 xs = rightFrom p (xs.drop k) ∧ (k = 0 → p = 0) ∧ (0 < k → ∃ y, xs[k - 1]? = some y ∧ p = y.run)
theorem RightAt.bad {xs : List Surf} {k : Nat} {x : Surf} (h : RightAt xs k) (hx : xs[k]? = some x) (hok : ¬ okS x) (hl : ¬ 64 < xs.length) : right xs = 2 := by
  obtain ⟨p, h1, _⟩ := h
  rw [right, if_neg hl, h1, drop_of hx, rightFrom, if_neg hok]
theorem RightAt.next0 {xs : List Surf} {x : Surf} (hx : xs[0]? = some x) (hok : okS x) : RightAt xs 1 := by
  refine ⟨x.run, ?_, by omega, fun _ => ⟨_, hx, rfl⟩⟩
  have : xs = x :: xs.drop 1 := by simpa using drop_of hx
  conv => lhs; rw [this]
  rw [rightFrom, if_pos hok, if_neg (by have := hok.1; omega)]
theorem RightAt.step {xs : List Surf} {k : Nat} {x y : Surf} (h : RightAt xs k) (hx : xs[k]? = some x) (hy : xs[k - 1]? = some y) (h0 : 0 < k) (hok : okS x) :
    (x.run ≤ y.run → rightFrom 0 xs = 11) ∧ (y.run < x.run → RightAt xs (k + 1)) := by
  obtain ⟨p, h1, _, h3⟩ := h
  obtain ⟨y', hy', rfl⟩ := h3 h0
  obtain rfl : y = y' := by rw [hy] at hy'; exact Option.some.inj hy'
  rw [drop_of hx, rightFrom, if_pos hok] at h1
  refine ⟨fun h => by rw [h1, if_pos h], fun h => ⟨x.run, by rw [h1, if_neg (by omega)], by omega, fun _ => ⟨_, by simp [hx], rfl⟩⟩⟩
theorem RightAt.done {xs : List Surf} {k : Nat} (h : RightAt xs k) (hk : ¬ k < xs.length) (hl : ¬ 64 < xs.length) : right xs = 0 := by
  obtain ⟨p, h1, _⟩ := h
  rw [right, if_neg hl, h1, drop_end hk, rightFrom]

/-- The place of a run, counted from k, or -1. -/
def idxFrom (run : Int) : Nat → List Surf → Int
  | _, [] => -1
  | k, x :: r => if x.run = run then k else idxFrom run (k + 1) r
def idx (l : List Surf) (run : Int) : Int := idxFrom run 0 l
theorem idx_step {xs : List Surf} {run : Int} {k : Nat} {x : Surf} (hx : xs[k]? = some x) : idxFrom run k (xs.drop k) = if x.run = run then (k : Int) else idxFrom run (k + 1) (xs.drop (k + 1)) := by
  rw [drop_of hx, idxFrom]
theorem idx_end {xs : List Surf} {run : Int} {k : Nat} (hk : ¬ k < xs.length) : idxFrom run k (xs.drop k) = -1 := by
  rw [drop_end hk, idxFrom]
theorem idxFrom_some (run : Int) : ∀ (l : List Surf) (k : Nat), idxFrom run k l = -1 ∨ ∃ (i : Nat) (x : Surf), idxFrom run k l = ((k + i : Nat) : Int) ∧ l[i]? = some x ∧ x.run = run
  | [], _ => .inl rfl
  | x :: r, k => by
    rw [idxFrom]
    split
    · rename_i h
      exact .inr ⟨0, x, by simp, rfl, h⟩
    · rcases idxFrom_some run r (k + 1) with h | ⟨i, y, h1, h2, h3⟩
      · exact .inl h
      · exact .inr ⟨i + 1, y, by rw [h1]; omega, by simpa using h2, h3⟩
theorem idx_some (l : List Surf) (run : Int) : idx l run = -1 ∨ ∃ (i : Nat) (x : Surf), idx l run = (i : Int) ∧ l[i]? = some x ∧ x.run = run := by
  have := idxFrom_some run l 0
  simpa [idx] using this

/-- The quality of a surface at the time t. -/
def quality (x : Surf) (t : Int) : Int :=
  if x.groomed < 0 ∨ t < x.groomed then 0 else max 0 (1000 - x.traffic / 4 - 10 * ((t - x.groomed) / 3600))

/-- The surfaces after a run was groomed. -/
def groom (l : List Surf) (run t : Int) : List Surf × Int :=
  if idx l run < 0 then ([], 8) else
  match l[(idx l run).toNat]? with
  | none => ([], 8)
  | some x => if t < x.groomed ∨ 20000000 < t ∨ t < 0 then ([], 11) else (l.set (idx l run).toNat ⟨x.run, t, 0⟩, 0)
theorem groom_none {l : List Surf} {run t : Int} (h : idx l run = -1) : groom l run t = ([], 8) := by rw [groom, h]; rfl
theorem groom_bad {l : List Surf} {run t : Int} {i : Nat} {x : Surf} (h : idx l run = i) (hx : l[i]? = some x) (hb : t < x.groomed ∨ 20000000 < t ∨ t < 0) : groom l run t = ([], 11) := by
  rw [groom, h, if_neg (by omega)]; simp [hx, hb]
theorem groom_ok {l : List Surf} {run t : Int} {i : Nat} {x : Surf} (h : idx l run = i) (hx : l[i]? = some x) (hb : ¬ (t < x.groomed ∨ 20000000 < t ∨ t < 0)) : groom l run t = (l.set i ⟨x.run, t, 0⟩, 0) := by
  rw [groom, h, if_neg (by omega)]; simp [hx, hb]

def capT (n : Int) : Int := min n 1000000
/-- The surfaces after n descents on a run. -/
def descend (l : List Surf) (run n : Int) : List Surf × Int :=
  if idx l run < 0 then ([], 8) else
  match l[(idx l run).toNat]? with
  | none => ([], 8)
  | some x => if n < 0 ∨ 10000 < n then ([], 2) else (l.set (idx l run).toNat ⟨x.run, x.groomed, capT (x.traffic + n)⟩, 0)
theorem descend_none {l : List Surf} {run n : Int} (h : idx l run = -1) : descend l run n = ([], 8) := by rw [descend, h]; rfl
theorem descend_bad {l : List Surf} {run n : Int} {i : Nat} {x : Surf} (h : idx l run = i) (hx : l[i]? = some x) (hb : n < 0 ∨ 10000 < n) : descend l run n = ([], 2) := by
  rw [descend, h, if_neg (by omega)]; simp [hx, hb]
theorem descend_ok {l : List Surf} {run n : Int} {i : Nat} {x : Surf} (h : idx l run = i) (hx : l[i]? = some x) (hb : ¬ (n < 0 ∨ 10000 < n)) : descend l run n = (l.set i ⟨x.run, x.groomed, capT (x.traffic + n)⟩, 0) := by
  rw [descend, h, if_neg (by omega)]; simp [hx, hb]

/-- The first place, counted from k, of an element with p, or -1. -/
def idxP (p : Surf → Bool) : Nat → List Surf → Int
  | _, [] => -1
  | k, x :: r => if p x then k else idxP p (k + 1) r
theorem idxP_step {p : Surf → Bool} {xs : List Surf} {k : Nat} {x : Surf} (hx : xs[k]? = some x) : idxP p k (xs.drop k) = if p x then (k : Int) else idxP p (k + 1) (xs.drop (k + 1)) := by
  rw [drop_of hx, idxP]

/-- After the elements up to j were looked at, the first i hold those that stay. -/
structure KeptInv (p : Surf → Bool) (xs : List Surf) (i j : Nat) (L : List Surf) : Prop where
  len : L.length = xs.length
  low : L.take i = (xs.take j).filter (fun x => !p x)
  high : L.drop j = xs.drop j
theorem idxP_from (p : Surf → Bool) : ∀ (l : List Surf) (k : Nat), (idxP p k l = -1 ∧ l.filter (fun x => !p x) = l) ∨ ∃ i, idxP p k l = ((k + i : Nat) : Int) ∧ i < l.length ∧ l.take i = (l.take (i + 1)).filter (fun x => !p x)
  | [], _ => .inl ⟨rfl, rfl⟩
  | x :: r, k => by
    rw [idxP]
    cases hp : p x with
    | true => exact .inr ⟨0, by simp, by simp, by simp [hp]⟩
    | false =>
      rcases idxP_from p r (k + 1) with ⟨h1, h2⟩ | ⟨i, h1, h2, h3⟩
      · exact .inl ⟨by simpa using h1, by simp [hp, h2]⟩
      · exact .inr ⟨i + 1, by simp [h1]; omega, by simpa using h2, by simp [hp, ← h3]⟩
theorem idxP_spec (p : Surf → Bool) (xs : List Surf) : (idxP p 0 xs = -1 ∧ xs.filter (fun x => !p x) = xs) ∨ ∃ k : Nat, idxP p 0 xs = (k : Int) ∧ k < xs.length ∧ KeptInv p xs k (k + 1) xs := by
  rcases idxP_from p xs 0 with h | ⟨i, h1, h2, h3⟩
  · exact .inl h
  · exact .inr ⟨i, by simpa using h1, h2, rfl, h3, rfl⟩
theorem KeptInv.at_ {p : Surf → Bool} {xs L : List Surf} {i j : Nat} (h : KeptInv p xs i j L) : L[j]? = xs[j]? := by
  have := congrArg (fun l => l[0]?) h.high
  simpa using this
theorem KeptInv.keep {p : Surf → Bool} {xs L : List Surf} {i j : Nat} {x : Surf} (h : KeptInv p xs i j L) (hij : i < j) (hx : xs[j]? = some x) (hp : p x = false) : KeptInv p xs (i + 1) (j + 1) (L.set i x) := by
  have hj := (List.getElem?_eq_some_iff.1 hx).1
  have hl := h.len
  refine ⟨by simp [hl], ?_, ?_⟩
  · rw [List.take_add_one, List.take_add_one, hx, List.filter_append, ← h.low]
    rw [List.take_set_of_le (Nat.le_refl _)]
    simp [hp, show i < L.length by omega]
  · have := congrArg (List.drop 1) h.high
    rw [List.drop_drop, List.drop_drop] at this
    rw [List.drop_set_of_lt (by omega)]; exact this
theorem KeptInv.skip {p : Surf → Bool} {xs L : List Surf} {i j : Nat} {x : Surf} (h : KeptInv p xs i j L) (hx : xs[j]? = some x) (hp : p x = true) : KeptInv p xs i (j + 1) L := by
  refine ⟨h.len, ?_, ?_⟩
  · rw [h.low, List.take_add_one, hx, List.filter_append]; simp [hp]
  · have := congrArg (List.drop 1) h.high
    rwa [List.drop_drop, List.drop_drop] at this
theorem KeptInv.done {p : Surf → Bool} {xs L : List Surf} {i j : Nat} (h : KeptInv p xs i j L) (hj : ¬ j < xs.length) : L.take i = xs.filter (fun x => !p x) := by
  rw [h.low, List.take_of_length_le (by omega)]

/-- Worse quality first, then the lesser run: less than 0 where x comes before y. -/
def cmpQ (t : Int) (x y : Surf) : Int :=
  if quality x t < quality y t then -1 else if quality y t < quality x t then 1 else if x.run < y.run then -1 else if y.run < x.run then 1 else 0

theorem cmpQ_lt (t : Int) (x y : Surf) : cmpQ t x y < 0 ↔ quality x t < quality y t ∨ quality x t = quality y t ∧ x.run < y.run := by
  unfold cmpQ
  by_cases h1 : quality x t < quality y t
  · simp [h1]
  · by_cases h2 : quality y t < quality x t
    · rw [if_neg h1, if_pos h2]; omega
    · rw [if_neg h1, if_neg h2]
      by_cases h3 : x.run < y.run
      · rw [if_pos h3]; omega
      · rw [if_neg h3]; split <;> omega

/-- The runs of the quality q. -/
def bucket (xs : List Surf) (t q : Int) : List Int := (xs.filter fun x => quality x t == q).map (·.run)
/-- The runs of less than the quality q, by quality. -/
def worstTo (xs : List Surf) (t : Int) : Nat → List Int
  | 0 => []
  | q + 1 => worstTo xs t q ++ bucket xs t q
theorem take_snoc {α : Type} (l : List α) (k : Nat) (y : α) (h : l[k]? = some y) : l.take (k + 1) = l.take k ++ [y] := by
  rw [List.take_add_one, h]; rfl
theorem bucket_hit {xs : List Surf} {t q : Int} {k : Nat} {x : Surf} (hx : xs[k]? = some x) (hq : quality x t = q) : bucket (xs.take (k + 1)) t q = bucket (xs.take k) t q ++ [x.run] := by
  rw [bucket, take_snoc _ _ _ hx, List.filter_append, List.map_append]; simp [bucket, hq]
theorem bucket_miss {xs : List Surf} {t q : Int} {k : Nat} {x : Surf} (hx : xs[k]? = some x) (hq : ¬ quality x t = q) : bucket (xs.take (k + 1)) t q = bucket (xs.take k) t q := by
  rw [bucket, take_snoc _ _ _ hx, List.filter_append, List.map_append]; simp [bucket, hq]
theorem bucket_le (xs : List Surf) (t q : Int) : (bucket xs t q).length ≤ xs.length := by
  rw [bucket, List.length_map]; exact List.length_filter_le _ _
theorem worstTo_le (xs : List Surf) (t : Int) : ∀ q, (worstTo xs t q).length ≤ q * xs.length
  | 0 => by simp [worstTo]
  | q + 1 => by
    have h1 := worstTo_le xs t q
    have h2 := bucket_le xs t q
    rw [worstTo, List.length_append, Nat.add_mul]; omega
def worst (xs : List Surf) (t least : Int) : List Int := worstTo xs t (min 1001 (max 0 least)).toNat

end Go.Proofs.Ytgjcoebfiangcaa.Old
