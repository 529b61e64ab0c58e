/- A part of the proof. -/
import Derived.Test.YtjpdaapjnpdiiaaGreatE1
import Derived.Shelf.SlSortCmp.NoneTotal
import Derived.Test.YtjpdaapjnpdiiaaGreatE3
namespace Go.Proofs.YtjpdaapjnpdiiaaGreat
open Go.RowKit Go.Sort Go.Shelf
variable [DrFlag]
omit [DrFlag] in
theorem flatK_eq {α : Type} [Inhabited α] (enc : α → List Value) (k : Nat) (hk : ∀ x, (enc x).length = k) (xs : List α) : flatK enc k xs.toArray = (xs.flatMap enc).toArray := by
 apply Array.ext
 · simp [flat_length enc k hk]
 · intro t h1 h2
   have ht : t < xs.length * k := by simpa using h1
   have k0 : 0 < k := by
     rcases Nat.eq_zero_or_pos k with h | h
     · subst h; simp at ht
     · exact h
   have hi : t / k < xs.length := Nat.div_lt_of_lt_mul (by rwa [Nat.mul_comm] at ht)
   have hx : xs[t / k]? = some xs[t / k] := List.getElem?_eq_getElem hi
   have hm : t % k < k := Nat.mod_lt _ k0
   have e : t / k * k + t % k = t := by rw [Nat.mul_comm]; exact Nat.div_add_mod t k
   have h := flat_get enc k hk xs (t / k) (t % k) _ hx hm
   rw [e] at h
   have h3 : (xs.flatMap enc)[t]? = some ((xs.flatMap enc)[t]'(by simpa using h2)) := List.getElem?_eq_getElem _
   rw [h3] at h
   have h4 : (flatK enc k xs.toArray)[t]! = (enc xs.toArray[t / k]!)[t % k]! := get_flatK enc k xs.toArray t (by simpa using ht)
   have h5 : (flatK enc k xs.toArray)[t]! = (flatK enc k xs.toArray)[t] := getElem!_pos _ _ _
   rw [← h5, h4]
   have h6 : xs.toArray[t / k]! = xs[t / k] := by rw [getElem!_pos _ _ (by simpa using hi)]; simp
   rw [h6]
   have h7 : (enc xs[t / k])[t % k]? = some ((enc xs[t / k])[t % k]'(by rw [hk]; exact hm)) := List.getElem?_eq_getElem _
   rw [getElem!_pos _ _ (by rw [hk]; exact hm)]
   rw [h7] at h
   simpa using (Option.some.inj h).symm
omit [DrFlag] in
theorem Own.holdsK {α : Type} [Inhabited α] {enc : α → List Value} {k : Nat} {e base : Nat} {w : World} {g n cap : Nat} {xs : List α} (hk : ∀ x, (enc x).length = k) (h : Own enc k e base w (.slice (some ⟨g, 0, none⟩) n cap) xs) : HoldsK enc k w g 0 xs.toArray := by
 unfold HoldsK
 rw [flatK_eq enc k hk]
 intro j hj
 obtain rfl := h.len
 have hj' : j < xs.length * k := by simpa [flat_length enc k hk] using hj
 refine ⟨?_, by simpa using h.frozenAt j⟩
 have h2 : j < (xs.flatMap enc).length := by simpa using hj
 rw [Nat.zero_add, World.ownsRow.cellAt h j hj', List.getElem?_eq_getElem h2, getElem!_pos (xs.flatMap enc).toArray j hj]
 simp
omit [DrFlag] in
theorem Own.sorted {α : Type} [Inhabited α] {enc : α → List Value} {k : Nat} {e base : Nat} {w : World} {g n cap : Nat} {xs ys : List α} (hk : ∀ x, (enc x).length = k) (h : Own enc k e base w (.slice (some ⟨g, 0, none⟩) n cap) xs) (hl : ys.length = xs.length) (m : Nat) (os : Array Obj) :
   Own enc k e base (sortWorldK enc k w g 0 m ys.toArray os) (.slice (some ⟨g, 0, none⟩) n cap) ys ∧ Below base w (sortWorldK enc k w g 0 m ys.toArray os) := by
 obtain rfl := h.len
 rcases h.2 with ⟨h', _⟩ | ⟨g', cap', cur, h', hb, hg, hnc, hcm, hcs, htake⟩
 · simp at h'
 · simp only [Value.slice.injEq, Option.some.injEq, Addr.mk.injEq, and_true, true_and] at h'
   obtain ⟨rfl, rfl⟩ := h'
   have hgl : g < w.heap.size := by
     rcases Nat.lt_or_ge g w.heap.size with h | h
     · exact h
     · rw [Array.getElem?_eq_none h] at hg; cases hg
   have hF : flatK enc k ys.toArray = (ys.flatMap enc).toArray := flatK_eq enc k hk ys
   have hheap : (sortWorldK enc k w g 0 m ys.toArray os).heap = (w.heap.modify g (onCells (putCells id 0 (ys.flatMap enc).toArray))) ++ os := by
     unfold sortWorldK putRowK putRow; rw [hF]; rfl
   have hgm : (w.heap.modify g (onCells (putCells id 0 (ys.flatMap enc).toArray)))[g]? = some (.cells (putCells id 0 (ys.flatMap enc).toArray cur) e (0, 0)) := by
     rw [Array.getElem?_modify, if_pos rfl, hg]; rfl
   refine ⟨⟨flat_length enc k hk ys, .inr ⟨g, cap, putCells id 0 (ys.flatMap enc).toArray cur, by rw [hl], hb, ?_, by rw [hl]; exact hnc, hcm, by simp [putCells, hcs], ?_⟩⟩, ⟨rfl, rfl, rfl, ?_, fun i hi => ?_⟩⟩
   · rw [hheap, Array.getElem?_append_left (by simpa using hgl)]; exact hgm
   · have hle : ys.length * k ≤ cur.size := by rw [hcs, hl]; exact Nat.mul_le_mul_right k hnc
     apply List.ext_getElem
     · simp [putCells, flat_length enc k hk]; omega
     · intro i h1 h2
       have hi : i < ys.length * k := by simpa [flat_length enc k hk] using h2
       simp [putCells, flat_length enc k hk, hi]
   · rw [hheap]; simp
   · rw [hheap, Array.getElem?_append_left (by simp; omega), Array.getElem?_modify, if_neg (by omega)]
end Go.Proofs.YtjpdaapjnpdiiaaGreat
namespace Go.Proofs.YtjpdaapjnpdiiaaGreat
open Go.RowKit Go.Sort Go.Shelf
variable [DrFlag]
omit [DrFlag] in
theorem lays_of {w w' : World} (hb : Below w.heap.size w w') (hd : @DrLe ⟨true⟩ w w') : Lays w w' := by
 replace hd : w.drawn ≤ w'.drawn := hd rfl
 refine ⟨w'.drawn - w.drawn, w'.heap.extract w.heap.size w'.heap.size, ?_⟩
 have hh : w'.heap = w.heap ++ w'.heap.extract w.heap.size w'.heap.size := by
   apply Array.ext_getElem?
   intro i
   by_cases hi : i < w.heap.size
   · rw [Array.getElem?_append_left hi, hb.block i hi]
   · rw [Array.getElem?_append_right (by omega), Array.getElem?_extract]
     have hs := hb.size
     by_cases h2 : i < w'.heap.size
     · rw [if_pos (by omega)]; congr 1; omega
     · rw [if_neg (by omega), Array.getElem?_eq_none (by omega)]
 obtain ⟨h, t, d, o, p⟩ := w
 obtain ⟨h', t', d', o', p'⟩ := w'
 have e1 := hb.os
 have e2 := hb.tape
 have e3 := hb.output
 dsimp only at e1 e2 e3 hd hh
 subst e1; subst e2; subst e3
 simp only [Go.Sort.grow, World.drewN]
 congr 1
 omega
section
variable {α : Type} {cR : α → List CV} {k : Nat}
def vals (cR : α → List CV) (x : α) : List Value := (cR x).map CV.val
omit [DrFlag] in
theorem flat_vals (xs : List α) : xs.flatMap (vals cR) = ((xs.map cR).flatten).map CV.val := by
 induction xs with
 | nil => rfl
 | cons x r ih => simp [vals, ih]
omit [DrFlag] in
theorem rows_vals {w : World} {own : Nat → Prop} (hs : ∀ x, ∀ c ∈ cR x, c.scalar = true) {xs : List α} {us : List Value} (hl : us.length = xs.length * k) (h : RowsRep w own k (xs.map cR) us) : us = xs.flatMap (vals cR) := by
 rw [flat_vals]
 have hkk : ∀ r ∈ xs.map cR, r.length = k := h.1
 have hfl : (xs.map cR).flatten.length = us.length := by rw [flatten_len hkk, hl]; simp
 apply List.ext_getElem?
 intro i
 by_cases hi : i < us.length
 · have h1 : (xs.map cR).flatten[i]? = some (xs.map cR).flatten[i] := List.getElem?_eq_getElem (by omega)
   have h2 := h.2 i _ us[i] h1 (List.getElem?_eq_getElem hi)
   have hsc : ((xs.map cR).flatten[i]'(by omega)).scalar = true := by
     obtain ⟨l, hl1, hl2⟩ := List.mem_flatten.1 (List.getElem_mem (l := (xs.map cR).flatten) (n := i) (by omega))
     obtain ⟨x, _, rfl⟩ := List.mem_map.1 hl1
     exact hs x _ hl2
   rw [List.getElem?_eq_getElem hi, List.getElem?_map, h1, (scalar_rep hsc).1 h2]
   rfl
 · rw [List.getElem?_eq_none (by omega), List.getElem?_eq_none (by rw [List.length_map, hfl]; omega)]
omit [DrFlag] in
theorem vals_rows {w : World} {own : Nat → Prop} (hs : ∀ x, ∀ c ∈ cR x, c.scalar = true) (hk : ∀ x, (cR x).length = k) (xs : List α) : RowsRep w own k (xs.map cR) (xs.flatMap (vals cR)) := by
 refine ⟨fun r hr => ?_, fun i c v hc hv => ?_⟩
 · obtain ⟨x, _, rfl⟩ := List.mem_map.1 hr; exact hk x
 · rw [flat_vals, List.getElem?_map, hc] at hv
   cases hv
   obtain ⟨l, hl1, hl2⟩ := List.mem_flatten.1 (List.mem_of_getElem? hc)
   obtain ⟨x, _, rfl⟩ := List.mem_map.1 hl1
   exact (scalar_rep (hs x _ hl2)).2 rfl
omit [DrFlag] in
theorem sort_grown {enc : α → List Value} [Inhabited α] {w : World} {g m : Nat} {ys : Array α} {os : Array Obj} : w.grownBy (sortWorldK enc k w g 0 m ys os) (some g) := by
 refine ⟨rfl, rfl, rfl, ?_, fun i hi hne => ?_⟩
 · simp [sortWorldK, grow, putRowK]
 · show ((putRowK enc k (Sort.ahead w m) g 0 ys).heap ++ os)[i]? = _
   have hg : g ≠ i := fun e => hne (by rw [e])
   rw [Array.getElem?_append_left (by simp [putRowK]; exact hi)]
   show (w.heap.modify g _)[i]? = _
   rw [Array.getElem?_modify, if_neg hg]
def sortM (e k : Nat) (cR : α → List CV) (g : Nat) (caps : List SV) (ok : α → Prop) (cf : α → α → Int) : MSpec :=
 ⟨List α, e, k, fun l => l.map cR, fun _ => [.fn g caps], fun l => (∀ x ∈ l, ok x) ∧ l.length ≤ 1000000000, fun l r => ∃ ys : List α, r = ys.map cR ∧ ys.Perm l ∧ ys.Pairwise (fun a b => ¬ cf b a < 0)⟩
set_option maxHeartbeats 1000000 in
theorem sort_holds {P : Program} {ρ : Ren} (Ly : SlLaysF0.n6 P ρ) {ok : α → Prop} [Inhabited {x // ok x}] (aE : ∀ w, (isAgg (ρ.t 24)).run P w = .ok true w) (zE : ∀ w, (Go.sizeOf (ρ.t 24)).run P w = .ok k w)
   (hs : ∀ x, ∀ c ∈ cR x, c.scalar = true) (hk : ∀ x, (cR x).length = k) (cf : α → α → Int) (hO : SWO (ltOf fun x y : {x // ok x} => cf x.1 y.1)) (g : Nat) (caps : List SV) (hcb : callable P g = true)
   (hg : @Holds ⟨true⟩ P g (spec (α × α) (fun p => .agg ((cR p.1).map .c) :: .agg ((cR p.2).map .c) :: caps) (fun p => ok p.1 ∧ ok p.2) (fun p => I (cf p.1 p.2)))) (e : Nat) :
   HoldsM P (ρ.f 6) (sortM e k cR g caps ok cf) := by
 intro l own w base p us vs hpre hpo hbase hown hrows hargs
 obtain ⟨hok, hlen⟩ := hpre
 have hvk : ∀ x, (vals cR x).length = k := fun x => by simp [vals, hk]
 have hn : ((sortM e k cR g caps ok cf).rows l).length = l.length := @List.length_map α _ l cR
 rw [hn] at hown ⊢
 have hus : us = l.flatMap (vals cR) := rows_vals hs (by rw [hown.1]) hrows
 obtain ⟨v1, hv1, hfn⟩ := replist_one hargs
 subst hv1
 cases hfn with
 | fn _ _ cvs hcl hcr =>
   have ho : Own (vals cR) k e base w (ownVal p l.length) l := by unfold Own; rw [← hus]; exact hown
   rcases Nat.eq_zero_or_pos l.length with h0 | h0
   · have : l = [] := List.eq_nil_of_length_eq_zero h0
     subst this
     obtain ⟨pp, cap, hv⟩ : ∃ pp cap, ownVal p 0 = .slice pp 0 cap := by cases p <;> exact ⟨_, _, rfl⟩
     have := AnyF.slices_SortFunc_none Ly pp cap (.func (.func g) #[] cvs.toArray) w
     rw [show (ownVal p ([] : List α).length) = .slice pp 0 cap from hv]
     refine this.mono ?_
     rintro e' w' ⟨he, hw⟩
     subst hw
     refine ⟨[], us, he, DrLe.refl _, World.grownBy.refl _ _, ⟨[], rfl, .refl _, .nil⟩, rfl, ?_, hrows⟩
     rw [← hv]; exact hown
   · obtain ⟨gb, cap, hv, hg1, hg2, _, _⟩ := ho.form h0
     obtain ⟨c0, hp⟩ : ∃ c0, p = some (gb, c0) := by
       cases p with
       | none => simp [ownVal] at hv
       | some q => obtain ⟨b, c⟩ := q; simp [ownVal] at hv; exact ⟨c, by rw [hv.1]⟩
     subst hp
     have hc0 : c0 = cap := by simp [ownVal] at hv; exact hv
     subst hc0
     obtain ⟨xs', rfl⟩ : ∃ xs' : List {x // ok x}, l = xs'.map (·.1) := ⟨List.attachWith (l : List α) ok hok, (List.unattach_attachWith (l := (l : List α)) (H := hok)).symm⟩
     have hln : (xs'.map (·.1)).length = xs'.length := by simp
     have ho' : Own (fun x : {x // ok x} => vals cR x.1) k e base w (.slice (some ⟨gb, 0, none⟩) (xs'.map (·.1)).length c0) xs' := by
       unfold Own at ho ⊢
       simpa [List.flatMap_map, ownVal] using ho
     have hcl : CmpLays P g cvs.toArray (fun x : {x // ok x} => vals cR x.1) k (fun x y => cf x.1 y.1) gb 0 xs'.toArray.size w := by
       intro m os dk hsz x y
       have hgr : w.grownBy (sortWorldK (fun x : {x // ok x} => vals cR x.1) k w gb 0 m dk os) (some gb) := sort_grown
       have hkp : Keeps w (sortWorldK (fun x : {x // ok x} => vals cR x.1) k w gb 0 m dk os) (fun b => ∃ c, some (gb, c0) = some (b, c)) (fun b => ∃ c, some (gb, c0) = some (b, c)) := by
         refine ⟨hgr.size, fun b o u hb hno hc => ?_, fun b _ h => h⟩
         rw [← hc]
         exact World.cell?_of_block (hgr.block b hb fun h => hno ⟨c0, by cases h; rfl⟩)
       have hag : ∀ z : {x // ok x}, Rep (sortWorldK (fun x : {x // ok x} => vals cR x.1) k w gb 0 m dk os) (fun b => ∃ c, some (gb, c0) = some (b, c)) (fun _ => none) [] 0 (.agg ((cR z.1).map .c)) (.agg (vals cR z.1).toArray) := by
         intro z
         refine .agg _ _ (by simp [vals]) (fun s hs' => ?_) (fun i s v h1 h2 => ?_)
         · obtain ⟨c, _, rfl⟩ := List.mem_map.1 hs'; rfl
         · rw [List.getElem?_map] at h1
           unfold vals at h2
           rw [List.getElem?_map] at h2
           cases hc : (cR z.1)[i]? with
           | none => rw [hc] at h1; cases h1
           | some c =>
             rw [hc] at h1 h2
             cases h1; cases h2
             exact .c _ _ ((scalar_rep (hs _ _ (List.mem_of_getElem? hc))).2 rfl)
       have hh := hg (x.1, y.1) (fun b => ∃ c, some (gb, c0) = some (b, c)) (sortWorldK (fun x : {x // ok x} => vals cR x.1) k w gb 0 m dk os) (.agg (vals cR x.1).toArray :: .agg (vals cR y.1).toArray :: cvs) ⟨x.2, y.2⟩
         (by rintro b ⟨c, h⟩; cases h; have := hgr.size; omega)
         (replist_mk (hag x) (replist_mk (hag y) ⟨hcl, fun i s v h1 h2 => (hcr i s v h1 h2).keep hkp (Shapes.refl _ _ _)⟩))
       have he : (#[.agg (vals cR x.1).toArray, .agg (vals cR y.1).toArray] ++ cvs.toArray : Array Value) = (.agg (vals cR x.1).toArray :: .agg (vals cR y.1).toArray :: cvs : List Value).toArray := by simp
       rw [he]
       refine hh.mono ?_
       rintro e' w' ⟨v, ι, hev, hb, hd, hr, _⟩
       cases hr with
       | c _ _ hr => cases hr; exact ⟨hev, lays_of hb hd⟩
     have hcon := AnyQ.slices_SortFunc Ly k aE zE (fun x : {x // ok x} => vals cR x.1) (fun x => hvk x.1) (fun x v hv => by
         obtain ⟨c, hc, rfl⟩ := List.mem_map.1 hv
         exact ((scalar_rep (w := w) (own := fun _ => False) (hs _ _ hc)).2 rfl).one) (fun x y => cf x.1 y.1) hO g cvs.toArray gb 0 c0 xs'.toArray w (run_callFunc hcb) hcl (ho'.holdsK (fun x => hvk x.1)) hg2 (by simp at hlen ⊢; omega)
     have hsz : xs'.toArray.size = (xs'.map (·.1)).length := by simp
     rw [hsz] at hcon
     refine hcon.mono fun e' w' ⟨he, d', n, os, hp, hs', hw⟩ => ⟨(d'.toList.map (·.1)).map cR, (d'.toList.map (·.1)).flatMap (vals cR), he, ?_⟩
     subst hw
     obtain ⟨hp1, _, hp3⟩ := hp
     have hdl : d'.toList.length = xs'.length := by simpa using hp1
     have hperm : d'.toList.Perm xs' := by
       have h : (d'.extract 0 (xs'.map (·.1)).length).toList = d'.toList := by
         rw [Array.extract_eq_self_of_le (by simp at hdl ⊢; omega)]
       have h' : (xs'.toArray.extract 0 (xs'.map (·.1)).length).toList = xs' := by
         rw [Array.extract_eq_self_of_le (by simp)]
       rw [h, h'] at hp3; exact hp3
     have hso := ho'.sorted (ys := d'.toList) (fun x => hvk x.1) hdl n os
     rw [Array.toArray_toList] at hso
     refine ⟨?_, sort_grown, ⟨d'.toList.map (·.1), rfl, hperm.map _, ?_⟩, by simpa using hdl, ?_, vals_rows hs hk _⟩
     · intro _
       show w.drawn ≤ w.drawn + n
       omega
     · rw [List.pairwise_map, List.pairwise_iff_getElem]
       intro i j hi hj hij
       have := hs' i j (Nat.zero_le _) hij (by simp at hdl hj ⊢; omega)
       rw [getElem!_pos d' i (by simpa using hi), getElem!_pos d' j (by simpa using hj)] at this
       simpa [ltOf] using this
     · have := hso.1
       unfold Own at this
       rw [List.flatMap_map]
       have hd' : d'.toList.length = (xs'.map (·.1)).length := by rw [hdl, hln]
       rw [hd'] at this
       exact this
end
end Go.Proofs.YtjpdaapjnpdiiaaGreat
