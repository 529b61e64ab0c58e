/- slices.SortFunc at a row of structs of the call's own: sorted, a permutation. No program in sight. -/
import Derived.Test.YtgjcoebfiangcaaZMem
import Derived.Shelf.SlSortCmp.NoneTotal
namespace Go.Proofs.Ytgjcoebfiangcaa.Old
open Go.RowKit Go.Sort Go.Shelf

theorem flatK_eq {α : Type} [Inhabited α] (enc : α → List Value) (k : Nat) (hk : ∀ x, (enc x).length = k) (xs : List α) : flatK enc k xs.toArray = (xs.flatMap enc).toArray := by
  apply Array.ext
  · simp [flat_length enc k hk]
  · intro t h1 h2
    have ht : t < xs.length * k := by simpa using h1
    have k0 : 0 < k := by
      rcases Nat.eq_zero_or_pos k with h | h
      · subst h; simp at ht
      · exact h
    have hi : t / k < xs.length := Nat.div_lt_of_lt_mul (by rwa [Nat.mul_comm] at ht)
    have hx : xs[t / k]? = some xs[t / k] := List.getElem?_eq_getElem hi
    have hm : t % k < k := Nat.mod_lt _ k0
    have e : t / k * k + t % k = t := by rw [Nat.mul_comm]; exact Nat.div_add_mod t k
    have h := flat_get enc k hk xs (t / k) (t % k) _ hx hm
    rw [e] at h
    have h3 : (xs.flatMap enc)[t]? = some ((xs.flatMap enc)[t]'(by simpa using h2)) := List.getElem?_eq_getElem _
    rw [h3] at h
    have h4 : (flatK enc k xs.toArray)[t]! = (enc xs.toArray[t / k]!)[t % k]! := get_flatK enc k xs.toArray t (by simpa using ht)
    have h5 : (flatK enc k xs.toArray)[t]! = (flatK enc k xs.toArray)[t] := getElem!_pos _ _ _
    rw [← h5, h4]
    have h6 : xs.toArray[t / k]! = xs[t / k] := by rw [getElem!_pos _ _ (by simpa using hi)]; simp
    rw [h6]
    have h7 : (enc xs[t / k])[t % k]? = some ((enc xs[t / k])[t % k]'(by rw [hk]; exact hm)) := List.getElem?_eq_getElem _
    rw [getElem!_pos _ _ (by rw [hk]; exact hm)]
    rw [h7] at h
    simpa using (Option.some.inj h).symm

theorem Own.holdsK {α : Type} [Inhabited α] {enc : α → List Value} {k : Nat} {e base : Nat} {w : World} {g n cap : Nat} {xs : List α} (hk : ∀ x, (enc x).length = k) (h : Own enc k e base w (.slice (some ⟨g, 0, none⟩) n cap) xs) : HoldsK enc k w g 0 xs.toArray := by
  unfold HoldsK
  rw [flatK_eq enc k hk]
  intro j hj
  obtain rfl := h.len
  have hj' : j < xs.length * k := by simpa [flat_length enc k hk] using hj
  refine ⟨?_, by simpa using h.frozenAt j⟩
  have h2 : j < (xs.flatMap enc).length := by simpa using hj
  rw [Nat.zero_add, World.ownsRow.cellAt h j hj', List.getElem?_eq_getElem h2, getElem!_pos (xs.flatMap enc).toArray j hj]
  simp

theorem Own.sorted {α : Type} [Inhabited α] {enc : α → List Value} {k : Nat} {e base : Nat} {w : World} {g n cap : Nat} {xs ys : List α} (hk : ∀ x, (enc x).length = k) (h : Own enc k e base w (.slice (some ⟨g, 0, none⟩) n cap) xs) (hl : ys.length = xs.length) (m : Nat) (os : Array Obj) :
    Own enc k e base (sortWorldK enc k w g 0 m ys.toArray os) (.slice (some ⟨g, 0, none⟩) n cap) ys ∧ Below base w (sortWorldK enc k w g 0 m ys.toArray os) := by
  obtain rfl := h.len
  rcases h.2 with ⟨h', _⟩ | ⟨g', cap', cur, h', hb, hg, hnc, hcm, hcs, htake⟩
  · simp at h'
  · simp only [Value.slice.injEq, Option.some.injEq, Addr.mk.injEq, and_true, true_and] at h'
    obtain ⟨rfl, rfl⟩ := h'
    have hgl : g < w.heap.size := by
      rcases Nat.lt_or_ge g w.heap.size with h | h
      · exact h
      · rw [Array.getElem?_eq_none h] at hg; cases hg
    have hF : flatK enc k ys.toArray = (ys.flatMap enc).toArray := flatK_eq enc k hk ys
    have hheap : (sortWorldK enc k w g 0 m ys.toArray os).heap = (w.heap.modify g (onCells (putCells id 0 (ys.flatMap enc).toArray))) ++ os := by
      unfold sortWorldK putRowK putRow; rw [hF]; rfl
    have hgm : (w.heap.modify g (onCells (putCells id 0 (ys.flatMap enc).toArray)))[g]? = some (.cells (putCells id 0 (ys.flatMap enc).toArray cur) e (0, 0)) := by
      rw [Array.getElem?_modify, if_pos rfl, hg]; rfl
    refine ⟨⟨flat_length enc k hk ys, .inr ⟨g, cap, putCells id 0 (ys.flatMap enc).toArray cur, by rw [hl], hb, ?_, by rw [hl]; exact hnc, hcm, by simp [putCells, hcs], ?_⟩⟩, ⟨rfl, rfl, rfl, ?_, fun i hi => ?_⟩⟩
    · rw [hheap, Array.getElem?_append_left (by simpa using hgl)]; exact hgm
    · have hle : ys.length * k ≤ cur.size := by rw [hcs, hl]; exact Nat.mul_le_mul_right k hnc
      apply List.ext_getElem
      · simp [putCells, flat_length enc k hk]; omega
      · intro i h1 h2
        have hi : i < ys.length * k := by simpa [flat_length enc k hk] using h2
        simp [putCells, flat_length enc k hk, hi]
    · rw [hheap]; simp
    · rw [hheap, Array.getElem?_append_left (by simp; omega), Array.getElem?_modify, if_neg (by omega)]

set_option maxHeartbeats 1000000 in
/-- slices.SortFunc over a row of the call's own. -/
theorem sort_own {P : Program} {ρ : Ren} (L : SlLaysF0.n6 P ρ) {α : Type} {ok : α → Prop} [Inhabited {x // ok x}] {enc : α → List Value} {k : Nat} (aE : ∀ w, (isAgg (ρ.t 24)).run P w = .ok true w) (zE : ∀ w, (Go.sizeOf (ρ.t 24)).run P w = .ok k w)
    (hk : ∀ x, (enc x).length = k) (h1 : ∀ x, ∀ v ∈ enc x, v.oneCell' = true) (cf : α → α → Int) (hO : SWO (ltOf fun x y : {x // ok x} => cf x.1 y.1)) (g : Nat) (cb : Array Value) (eg : ∀ args w, (callFunc g args).run P w = .ok (.enter g args) w)
    {e base : Nat} {w : World} {v : Value} {xs : List α} (ho : Own enc k e base w v xs) (hok : ∀ x ∈ xs, ok x) (hlen : xs.length ≤ 1000000000)
    (hcmp : ∀ W x y, ok x → ok y → (∀ b o, b < base → W.cell? ⟨b, o, none⟩ = w.cell? ⟨b, o, none⟩) → w.heap.size ≤ W.heap.size →
      Calls P g (#[.agg (enc x).toArray, .agg (enc y).toArray] ++ cb) W fun e w' => e = .returned (.int .i64 (cf x y)) ∧ Lays W w') :
    Calls P (ρ.f 6) #[v, .func (.func g) #[] cb] w fun e' w' => e' = .returned (.tuple #[]) ∧ ∃ ys, Own enc k e base w' v ys ∧ ys.Perm xs ∧ ys.Pairwise (fun a b => ¬ cf b a < 0) ∧ Below base w w' := by
  rcases Nat.eq_zero_or_pos xs.length with h0 | h0
  · have : xs = [] := List.eq_nil_of_length_eq_zero h0
    subst this
    obtain ⟨p, cap, rfl⟩ : ∃ p cap, v = .slice p 0 cap := by
      rcases ho.2 with ⟨rfl, _⟩ | ⟨g', cap, cur, rfl, _⟩
      · exact ⟨none, 0, rfl⟩
      · exact ⟨_, _, rfl⟩
    exact (AnyF.slices_SortFunc_none L p cap _ w).mono fun e' w' ⟨he, hw⟩ => by subst hw; exact ⟨he, [], ho, .refl _, .nil, Below.refl _ _⟩
  · obtain ⟨gb, cap, rfl, hg1, hg2, _, _⟩ := ho.form h0
    obtain ⟨xs', rfl⟩ : ∃ xs' : List {x // ok x}, xs = xs'.map (·.1) := ⟨xs.attachWith ok hok, by simp⟩
    have ho' : Own (fun x : {x // ok x} => enc x.1) k e base w (.slice (some ⟨gb, 0, none⟩) (xs'.map (·.1)).length cap) xs' := by
      unfold Own at ho ⊢
      simpa [List.flatMap_map] using ho
    have hcl : CmpLays P g cb (fun x : {x // ok x} => enc x.1) k (fun x y => cf x.1 y.1) gb 0 xs'.toArray.size w := by
      intro m os dk hs x y
      refine hcmp _ x.1 y.1 x.2 y.2 (fun b o hb => ?_) ?_
      · have hbl : b < w.heap.size := by omega
        unfold sortWorldK
        have e1 : (grow (putRowK (fun x : {x // ok x} => enc x.1) k (Sort.ahead w m) gb 0 dk) os).cell? ⟨b, o, none⟩ = (putRowK (fun x : {x // ok x} => enc x.1) k (Sort.ahead w m) gb 0 dk).cell? ⟨b, o, none⟩ := by
          apply World.cell?_of_block
          show ((_ : Array Obj) ++ os)[b]? = _
          rw [Array.getElem?_append_left (by simp [putRowK]; exact hbl)]
        rw [e1, cell?_putRowK_other _ _ _ _ _ _ _ (by show b ≠ gb; omega)]
        rfl
      · simp [sortWorldK, grow, putRowK]
    have hcon := AnyQ.slices_SortFunc L k aE zE (fun x : {x // ok x} => enc x.1) (fun x => hk x.1) (fun x => h1 x.1) (fun x y => cf x.1 y.1) hO g cb gb 0 cap xs'.toArray w eg hcl (ho'.holdsK (fun x => hk x.1)) hg2 (by simp at hlen ⊢; omega)
    have hsz : xs'.toArray.size = (xs'.map (·.1)).length := by simp
    rw [hsz] at hcon
    refine hcon.mono fun e' w' ⟨he, d', n, os, hp, hs, hw⟩ => ⟨he, d'.toList.map (·.1), ?_⟩
    subst hw
    obtain ⟨hp1, _, hp3⟩ := hp
    have hdl : d'.toList.length = xs'.length := by simpa using hp1
    have hperm : d'.toList.Perm xs' := by
      have h : (d'.extract 0 (xs'.map (·.1)).length).toList = d'.toList := by
        rw [Array.extract_eq_self_of_le (by simp at hdl ⊢; omega)]
      have h' : (xs'.toArray.extract 0 (xs'.map (·.1)).length).toList = xs' := by
        rw [Array.extract_eq_self_of_le (by simp)]
      rw [h, h'] at hp3; exact hp3
    have hso := ho'.sorted (ys := d'.toList) (fun x => hk x.1) hdl n os
    rw [Array.toArray_toList] at hso
    refine ⟨?_, hperm.map _, ?_, hso.2⟩
    · have := hso.1
      unfold Own at this ⊢
      simpa [List.flatMap_map] using this
    · rw [List.pairwise_map, List.pairwise_iff_getElem]
      intro i j hi hj hij
      have := hs i j (Nat.zero_le _) hij (by simp at hdl hj ⊢; omega)
      rw [getElem!_pos d' i (by simpa using hi), getElem!_pos d' j (by simpa using hj)] at this
      simpa [ltOf] using this

end Go.Proofs.Ytgjcoebfiangcaa.Old
