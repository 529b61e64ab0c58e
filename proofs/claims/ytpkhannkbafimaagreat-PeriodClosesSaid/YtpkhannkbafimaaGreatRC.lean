/- Periods: positions: plain. -/
import Derived.Test.YtpkhannkbafimaaGreatRB
namespace Go.Proofs.YtpkhannkbafimaaGreat
open Go.RowKit
theorem acc_step {l : List Share} (h : accB l = true) {k : Nat} {x : Share} (hx : l[k]? = some x) : accP x ∧ ∀ y, 0 < k → l[k - 1]? = some y → y.o < x.o := by
  have h1 := fe_all (of_decide_eq_true h) k (List.getElem?_eq_some_iff.1 hx).1
  unfold accE at h1
  rw [at_of hx] at h1
  by_cases ha : accP x
  · rw [if_neg (Decidable.not_not.2 ha)] at h1
    refine ⟨ha, fun y h0 hy => ?_⟩
    rw [at_of hy] at h1
    by_cases hle : x.o ≤ y.o
    · rw [if_pos ⟨h0, hle⟩] at h1; cases h1
    · omega
  · rw [if_pos ha] at h1; cases h1
theorem acc_ok {l : List Share} (h : accB l = true) : ∀ x ∈ l, accP x := fun x hx => by
  obtain ⟨k, hk⟩ := List.mem_iff_getElem?.1 hx
  exact (acc_step h hk).1
theorem acc_lt {l : List Share} (h : accB l = true) {i : Nat} {x : Share} (hx : l[i]? = some x) : ∀ (d : Nat) (y : Share), l[i + d + 1]? = some y → x.o < y.o
  | 0, y, hy => (acc_step h hy).2 x (by omega) hx
  | d + 1, y, hy => by
    obtain ⟨z, hz⟩ := getElem_some (show i + d + 1 < l.length by have := (List.getElem?_eq_some_iff.1 hy).1; omega)
    have h1 := acc_lt h hx d z hz
    have h2 := (acc_step h hy).2 z (by omega) hz
    omega
theorem acc_inc {l : List Share} (h : accB l = true) : l.Pairwise fun a b => a.o < b.o := by
  rw [List.pairwise_iff_getElem]
  intro i j hi hj hij
  obtain ⟨d, rfl⟩ : ∃ d, j = i + d + 1 := ⟨j - i - 1, by omega⟩
  exact acc_lt h (List.getElem?_eq_getElem hi) d _ (List.getElem?_eq_getElem hj)
theorem acc_ge {l : List Share} (h : accB l = true) : ∀ (k : Nat) (x : Share), l[k]? = some x → (k : Int) + 1 ≤ x.o
  | 0, x, hx => by have := (acc_step h hx).1.1.1; omega
  | k + 1, x, hx => by
    obtain ⟨y, hy⟩ := getElem_some (show k < l.length by have := (List.getElem?_eq_some_iff.1 hx).1; omega)
    have h1 := acc_ge h k y hy
    have h2 := (acc_step h hx).2 y (by omega) hy
    omega
theorem acc_len {l : List Share} (h : accB l = true) : l.length ≤ 8 := by
  by_cases h0 : l.length = 0
  · omega
  · obtain ⟨x, hx⟩ := getElem_some (show l.length - 1 < l.length by omega)
    have h1 := acc_ge h _ x hx
    have h2 := (acc_step h hx).1.1.2
    omega
/-- Whether an operator has a share. -/
def hasO (l : List Share) (n : Int) : Bool := l.any fun x => decide (x.o = n)
theorem hasO_snoc {l : List Share} {k : Nat} {x : Share} (hx : l[k]? = some x) (n : Int) : hasO (l.take (k + 1)) n = (hasO (l.take k) n || decide (x.o = n)) := by
  unfold hasO; rw [take_snoc _ _ _ hx, List.any_append]; simp
theorem hasO_mem {l : List Share} {n : Int} : hasO l n = true ↔ ∃ x ∈ l, x.o = n := by unfold hasO; simp
def posF (due rec : List Share) (n : Int) : Int := posAt due n - posAt rec n
def posK (due rec : List Share) : List Int := opsL.filter fun n => hasO due n || hasO rec n
def posL (due rec : List Share) : List Share := (posK due rec).map fun n => ⟨n, posF due rec n⟩
theorem posAt_zero' : ∀ {l : List Share} {n : Int}, hasO l n = false → posAt l n = 0
  | [], _, _ => rfl
  | x :: r, n, h => by
    unfold hasO at h
    rw [List.any_cons, Bool.or_eq_false_iff] at h
    rw [posAt, if_neg (of_decide_eq_false h.1), posAt_zero' (l := r) h.2]
    rfl
theorem posAt_one : ∀ {l : List Share}, (l.Pairwise fun a b => a.o < b.o) → ∀ x ∈ l, posAt l x.o = x.a
  | [], _, x, hx => by simp at hx
  | y :: r, hp, x, hx => by
    obtain ⟨h1, h2⟩ := List.pairwise_cons.1 hp
    rcases List.mem_cons.1 hx with rfl | hx
    · have h0 : posAt r x.o = 0 := posAt_zero' (by
        unfold hasO
        rw [List.any_eq_false]
        intro z hz
        have := h1 z hz
        simp
        omega)
      rw [posAt, if_pos rfl, h0]; omega
    · have := h1 x hx
      rw [posAt, if_neg (by omega), posAt_one h2 x hx]; omega
theorem posAt_bnd {l : List Share} (h : accB l = true) (n : Int) : 0 ≤ posAt l n ∧ posAt l n ≤ 137438953472 := by
  cases hh : hasO l n with
  | false => rw [posAt_zero' hh]; decide
  | true =>
    obtain ⟨x, hx, rfl⟩ := hasO_mem.1 hh
    rw [posAt_one (acc_inc h) x hx]
    have := (acc_ok h x hx).2
    omega
theorem acc_take {l : List Share} (h : accB l = true) (k : Nat) : (∀ x ∈ l.take k, accP x) ∧ (l.take k).Pairwise fun a b => a.o < b.o :=
  ⟨fun x hx => acc_ok h x (List.mem_of_mem_take hx), (acc_inc h).sublist (List.take_sublist _ _)⟩
theorem posAt_bndk {l : List Share} (h : accB l = true) (k : Nat) (n : Int) : 0 ≤ posAt (l.take k) n ∧ posAt (l.take k) n ≤ 137438953472 := by
  obtain ⟨h1, h2⟩ := acc_take h k
  cases hh : hasO (l.take k) n with
  | false => rw [posAt_zero' hh]; decide
  | true =>
    obtain ⟨x, hx, rfl⟩ := hasO_mem.1 hh
    rw [posAt_one h2 x hx]
    have := (h1 x hx).2
    omega
theorem sumA_bndk {l : List Share} (h : ∀ x ∈ l, accP x) : ∀ k : Nat, k ≤ l.length → 0 ≤ sumA (l.take k) ∧ sumA (l.take k) ≤ 137438953472 * (k : Int)
  | 0, _ => by simp [sumA, amt]
  | k + 1, hk => by
    obtain ⟨x, hx⟩ := getElem_some (show k < l.length by omega)
    have := sumA_bndk h k (by omega)
    have := (h x (List.mem_of_getElem? hx)).2
    rw [sumA_snoc hx]
    omega
/-- A map of numbers. -/
def kvI (f : Int → Int) (ks : List Int) : List (List Int × List CV) := ks.map fun o => ([o], [CV.int .i64 (f o)])
theorem findI_in {f : Int → Int} {o : Int} : ∀ {ks : List Int}, o ∈ ks → findKV [o] (kvI f ks) = some [CV.int .i64 (f o)]
  | [], h => by simp at h
  | y :: r, h => by
    rw [kvI, List.map_cons, findKV]
    by_cases e : o = y
    · rw [if_pos (by rw [e]), e]
    · rw [if_neg (by intro h; simp at h; exact e h)]
      exact findI_in (by rcases List.mem_cons.1 h with h | h; exact absurd h e; exact h)
theorem findI_out {f : Int → Int} {o : Int} : ∀ {ks : List Int}, o ∉ ks → findKV [o] (kvI f ks) = none
  | [], _ => rfl
  | y :: r, h => by
    rw [kvI, List.map_cons, findKV, if_neg (by intro e; simp at e; exact h (by simp [e]))]
    exact findI_out fun e => h (by simp [e])
theorem lookI {f : Int → Int} {ks : List Int} {o : Int} (h0 : o ∉ ks → f o = 0) {K : SV → Prop} (hK : K (.c (.int .i64 (f o)))) : (∀ l, findKV [o] (kvI f ks) = some l → gotV false false l true K) ∧ (findKV [o] (kvI f ks) = none → gotV false false [.int .i64 0] false K) := by
  by_cases h : o ∈ ks
  · refine ⟨fun l hl => ?_, fun e => by rw [findI_in h] at e; cases e⟩
    rw [findI_in h] at hl; cases hl; exact hK
  · refine ⟨fun l hl => (by rw [findI_out h] at hl; cases hl), fun _ => ?_⟩
    rw [h0 h] at hK; exact hK
theorem setI {f g : Int → Int} {o v : Int} (hg : ∀ z, g z = if z = o then v else f z) : ∀ {ks : List Int}, ks.Nodup → ∃ ks', setKV [o] [CV.int .i64 v] (kvI f ks) = kvI g ks' ∧ ks'.Nodup ∧ (∀ z, z ∈ ks' ↔ z ∈ ks ∨ z = o) ∧ ks'.length ≤ ks.length + 1
  | [], _ => ⟨[o], by simp [kvI, setKV, hg], by simp, fun z => by simp, by simp⟩
  | y :: r, hn => by
    obtain ⟨h1, h2⟩ := List.nodup_cons.1 hn
    by_cases e : o = y
    · subst e
      refine ⟨o :: r, ?_, hn, fun z => ?_, by simp⟩
      · rw [kvI, List.map_cons, setKV, if_pos rfl, kvI, List.map_cons]
        have e1 : g o = v := by rw [hg, if_pos rfl]
        rw [e1]
        congr 1
        exact List.map_congr_left fun z hz => by rw [hg, if_neg (by rintro rfl; exact h1 hz)]
      · simp only [List.mem_cons]
        constructor
        · exact .inl
        · rintro (h | rfl)
          · exact h
          · exact .inl rfl
    · obtain ⟨ks', q1, q2, q3, q4⟩ := setI hg h2
      refine ⟨y :: ks', ?_, List.nodup_cons.2 ⟨fun hy => ?_, q2⟩, fun z => ?_, by simp only [List.length_cons]; omega⟩
      · rw [kvI, List.map_cons, setKV, if_neg (by intro h; simp at h; exact e h)]
        rw [kvI] at q1
        rw [q1, kvI, kvI, List.map_cons, hg y, if_neg (fun h => e h.symm)]
      · rcases (q3 y).1 hy with h | h
        · exact h1 h
        · exact e h.symm
      · simp only [List.mem_cons, q3]
        constructor
        · rintro (h | h | h) <;> simp [h]
        · rintro ((h | h) | h) <;> simp [h]
theorem lt_uniq {a b : List Int} (ha : a.Pairwise (· < ·)) (hb : b.Pairwise (· < ·)) (h : ∀ z, z ∈ a ↔ z ∈ b) : a = b := by
  have na : a.Nodup := ha.imp fun h => by omega
  have nb : b.Nodup := hb.imp fun h => by omega
  exact List.Perm.eq_of_pairwise (fun x y _ _ h1 h2 => by omega) ha hb ((List.perm_ext_iff_of_nodup na nb).2 h)
theorem posK_sorted {due rec : List Share} (h1 : accB due = true) (h2 : accB rec = true) {ks : List Int} (hn : ks.Nodup) (hm : ∀ z, z ∈ ks ↔ hasO due z = true ∨ hasO rec z = true) : posK due rec = ks.mergeSort Go.leI := by
  have hp := List.mergeSort_perm ks Go.leI
  have hs : (ks.mergeSort Go.leI).Pairwise fun x y => Go.leI x y = true := List.pairwise_mergeSort
    (fun a b c h1 h2 => by simp only [Go.leI, decide_eq_true_eq] at *; omega)
    (fun a b => by simp only [Go.leI, Bool.or_eq_true, decide_eq_true_eq]; omega) _
  have hnd : (ks.mergeSort Go.leI).Nodup := hp.nodup_iff.2 hn
  have hops : opsL.Pairwise (· < ·) := by decide
  refine lt_uniq (hops.sublist List.filter_sublist) ((hs.and hnd).imp fun {a b} h => ?_) fun z => ?_
  · have h1 := h.1
    have h2 := h.2
    simp only [Go.leI, decide_eq_true_eq] at h1
    omega
  · rw [hp.mem_iff, hm]
    unfold posK
    rw [List.mem_filter, Bool.or_eq_true]
    refine ⟨fun h => h.2, fun h => ⟨mem_ops.2 ?_, h⟩⟩
    rcases h with h | h
    · obtain ⟨x, hx, rfl⟩ := hasO_mem.1 h; exact (acc_ok h1 x hx).1
    · obtain ⟨x, hx, rfl⟩ := hasO_mem.1 h; exact (acc_ok h2 x hx).1
theorem posK_len (due rec : List Share) : (posK due rec).length ≤ 8 := List.length_filter_le _ opsL
theorem posK_take (due rec : List Share) {k : Nat} {n : Int} (h : (posK due rec)[k]? = some n) : ((posK due rec).take (k + 1)).map (fun n => encS ⟨n, posF due rec n⟩) = ((posK due rec).take k).map (fun n => encS ⟨n, posF due rec n⟩) ++ [encS ⟨n, posF due rec n⟩] := by rw [take_snoc _ _ _ h, List.map_append]; rfl

end Go.Proofs.YtpkhannkbafimaaGreat
