/- The abstract walk is sound: views and calls. No program in sight. -/
import Derived.Test.YtfghmpfiemmbgaaA7
namespace Go.Proofs.Ytfghmpfiemmbgaa
open Go.RowKit

section
variable {P : Program} {F F' : Nat → Prop} {w0 w : World} {ι : Iota} {H H' : List (Nat × Ob)} {nx : Nat}

/-- What the call owns lies apart from the blocks to be spared. -/
def Avoid (F' : Nat → Prop) (ι : Iota) (H : List (Nat × Ob)) : Prop := ∀ id o b c, look H id = some o → o.live = true → ι id = some (b, c) → ¬ F' b
/-- The rows that a view opens are not among the blocks to be spared. -/
def refOk (F' : Nat → Prop) (ι : Iota) (H : List (Nat × Ob)) : SV → Prop
  | .osl id => ∀ o b c, look H id = some o → o.live = true → ι id = some (b, c) → ¬ F' b
  | .bp _ _ => False
  | _ => True

theorem row_view (hm : Mem F w0 ι H nx w) (hF : ∀ b, F' b → owned F ι H b) {id e k : Nat} {es : List (List CV)} (hh : look H id = some (.row e k es)) (hn : ∀ b c, ι id = some (b, c) → ¬ F' b) :
    RepC w F' (.sl k es) (ownVal (ι id) es.length) := by
  obtain ⟨_, xs, ho, hk, hr⟩ := hm.heap id _ hh
  have hkeep : Keeps w w (owned F ι H) F' := ⟨Nat.le_refl _, fun _ _ _ _ _ h => h, fun b _ h => hF b h⟩
  cases hι : ι id with
  | none =>
    rw [hι] at ho
    rcases ho.2 with ⟨_, h0⟩ | ⟨g, cap, cur, hv, _⟩
    · have : es = [] := List.eq_nil_of_length_eq_zero h0
      subst this
      exact .sl k [] none 0 [] (by simp) (by simp) (by omega) (by simp) (by simp) (by simp)
    · simp [ownVal] at hv
  | some p =>
    obtain ⟨b, c⟩ := p
    rw [hι] at ho
    have ho' : w.ownsRow w0.heap.size e k (.slice (some ⟨b, 0, none⟩) es.length c) es.length xs := ho
    have hcp : es.length ≤ c ∧ c ≤ 9223372036854775807 ∧ b < w.heap.size := by
      rcases ho'.2 with ⟨h', _⟩ | ⟨g, cap, cur, h', hb, hg, hnc, hcm, hcs, htake⟩
      · simp at h'
      · simp only [Value.slice.injEq, Option.some.injEq, Addr.mk.injEq, and_true, true_and] at h'
        obtain ⟨rfl, rfl⟩ := h'
        exact ⟨hnc, hcm, lt_of_heap hg⟩
    refine .sl k es (some ⟨b, 0, none⟩) c xs hk hcp.1 hcp.2.1 ho'.1 (fun _ => ⟨b, 0, rfl, hcp.2.2, hn b c hι, fun j u hu => ?_⟩) fun i cc v hc hv => (hr i cc v hc hv).keep hkeep
    have hj : j < es.length * k := by rw [← ho'.1]; exact (List.getElem?_eq_some_iff.1 hu).1
    rw [Nat.zero_add, World.ownsRow.cellAt ho' j hj]; exact hu

theorem closed1_rep (hm : Mem F w0 ι H nx w) (hF : ∀ b, F' b → owned F ι H b) (hsub : ∀ i o, look H' i = some o → o.live = true → look H i = some o) {s : SV} {c : CV} {u : Value} (hr : Avoid F' ι H' ∨ refOk F' ι H' s) (hc : closed1 H' s = some c) (h : Rep w (owned F ι H) ι H nx s u) : RepC w F' c u := by
  have hkeep : Keeps w w (owned F ι H) F' := ⟨Nat.le_refl _, fun _ _ _ _ _ h => h, fun b _ h => hF b h⟩
  unfold closed1 at hc
  split at hc
  · cases hc
    cases h with | c _ _ h => exact h.keep hkeep
  · rename_i id
    split at hc
    · rename_i e k es hh
      cases hc
      cases h with
      | osl _ _ hx h1 h =>
        have hh' := hsub _ _ hh rfl
        rw [h _ _ _ hh']
        refine row_view hm hF hh' fun b c hι => ?_
        rcases hr with hr | hr
        · exact hr _ _ b c hh rfl hι
        · exact hr _ b c hh rfl hι
    · cases hc
  · cases hc
theorem closedL_rep (hm : Mem F w0 ι H nx w) (hF : ∀ b, F' b → owned F ι H b) (hsub : ∀ i o, look H' i = some o → o.live = true → look H i = some o) : ∀ {ss : List SV} {cs : List CV} {us : List Value}, (Avoid F' ι H' ∨ ∀ s ∈ ss, refOk F' ι H' s) → closedL H' ss = some cs → RepList w (owned F ι H) ι H nx ss us →
    us.length = cs.length ∧ ∀ (i : Nat) (c : CV) (v : Value), cs[i]? = some c → us[i]? = some v → RepC w F' c v
  | [], cs, us, _, hc, h => by
    simp [closedL] at hc
    subst hc
    rw [replist_nil h]
    simp
  | s :: r, cs, us, hr, hc, h => by
    simp only [closedL] at hc
    split at hc
    · rename_i c l h1 h2
      cases hc
      obtain ⟨u, ur, rfl, hu, hur⟩ := replist_cons h
      obtain ⟨hl, ih⟩ := closedL_rep hm hF hsub (hr.imp id fun h s hs => h s (by simp [hs])) h2 hur
      refine ⟨by simp [hl], fun i c' v hc' hv => ?_⟩
      cases i with
      | zero =>
        simp at hc' hv
        subst hc'; subst hv
        exact closed1_rep hm hF hsub (hr.imp id fun h => h s (by simp)) h1 hu
      | succ i => exact ih i c' v (by simpa using hc') (by simpa using hv)
    · cases hc

theorem view0_rep (hm : Mem F w0 ι H nx w) (hF : ∀ b, F' b → owned F ι H b) (hsub : ∀ i o, look H' i = some o → o.live = true → look H i = some o) {s : SV} {u : Value} (hr : Avoid F' ι H' ∨ refOk F' ι H' s) (h : Rep w (owned F ι H) ι H nx s u) : Rep w F' (fun _ => none) [] 0 (view0 H' s) u := by
  have hkeep : Keeps w w (owned F ι H) F' := ⟨Nat.le_refl _, fun _ _ _ _ _ h => h, fun b _ h => hF b h⟩
  unfold view0
  split
  · cases h with | c _ _ h => exact .c _ _ (h.keep hkeep)
  · cases h with
    | rp _ b off xs hl hb ho hx h => exact .rp _ b off xs hl hb (fun h => ho (hF b h)) hx fun i c v hc hv => (h i c v hc hv).keep hkeep
  · rename_i id
    split
    · rename_i e k es hh
      exact .c _ _ (closed1_rep hm hF hsub hr (by simp [closed1, hh]) h)
    · exact .none_ _
  · rename_i id j
    split
    · rename_i cs hh
      split
      · rename_i l hl
        rcases hr with hr | hr
        · obtain ⟨b, cur, e, rfl, hcur, hrl, hcell, ⟨c, hι⟩, _⟩ := box_cells hm h (hsub _ _ hh rfl)
          have hrl' : RepList w (owned F ι H) ι H nx (cs.drop j) (cur.toList.drop j) := by
            refine ⟨by have := hrl.1; simp at this ⊢; omega, fun i s v hs hv => ?_⟩
            rw [List.getElem?_drop] at hs hv
            exact hrl.2 _ s v hs hv
          obtain ⟨h1, h2⟩ := closedL_rep hm hF hsub (.inl hr) hl hrl'
          refine .rp l b j _ h1 (lt_of_heap hcur) (hr _ _ b c hh rfl hι) (fun i u hu => ?_) h2
          rw [List.getElem?_drop] at hu
          rw [cell_of_cells hcur]; simpa using hu
        · exact hr.elim
      · exact .none_ _
    · exact .none_ _
  · rename_i f
    cases h with
    | fn _ _ vs hl h => exact .fn f [] vs hl fun i s v hs _ => by simp at hs
  · exact .none_ _

theorem viewL_rep (hm : Mem F w0 ι H nx w) (hF : ∀ b, F' b → owned F ι H b) (hsub : ∀ i o, look H' i = some o → o.live = true → look H i = some o) : ∀ {ss : List SV} {us : List Value}, (Avoid F' ι H' ∨ ∀ s ∈ ss, refOk F' ι H' s) → RepList w (owned F ι H) ι H nx ss us → RepList w F' (fun _ => none) [] 0 (viewL H' ss) us
  | [], us, _, h => by rw [replist_nil h]; exact replist_mk0
  | s :: r, us, hr, h => by
    obtain ⟨u, ur, rfl, hu, hur⟩ := replist_cons h
    exact replist_mk (view0_rep hm hF hsub (hr.imp id fun h => h s (by simp)) hu) (viewL_rep hm hF hsub (hr.imp id fun h s hs => h s (by simp [hs])) hur)
/-- Where the rows of an argument lie. -/
def refOkV (F' : Nat → Prop) (ι : Iota) (H : List (Nat × Ob)) : SV → Prop
  | .agg cs => ∀ s ∈ cs, refOk F' ι H s
  | .fn _ cs => ∀ s ∈ cs, refOk F' ι H s
  | s => refOk F' ι H s
theorem view_rep (hm : Mem F w0 ι H nx w) (hF : ∀ b, F' b → owned F ι H b) (hsub : ∀ i o, look H' i = some o → o.live = true → look H i = some o) {s : SV} {u : Value} (hr : Avoid F' ι H' ∨ refOkV F' ι H' s) (h : Rep w (owned F ι H) ι H nx s u) : Rep w F' (fun _ => none) [] 0 (view H' s) u := by
  unfold view
  split
  · rename_i cs
    split
    · rename_i hall
      cases h with
      | agg _ vs hl hc h =>
        obtain ⟨h1, h2⟩ := viewL_rep hm hF hsub (hr.imp id id) ⟨hl, h⟩
        exact .agg _ vs h1 (fun s hs => List.all_eq_true.1 hall s hs) h2
    · exact .none_ _
  · rename_i f caps
    cases h with
    | fn _ _ vs hl h =>
      obtain ⟨h1, h2⟩ := viewL_rep hm hF hsub (hr.imp id id) ⟨hl, h⟩
      exact .fn f _ vs h1 h2
  · rename_i h1 h2
    refine view0_rep hm hF hsub (hr.imp id fun h => ?_) h
    unfold refOkV at h
    split at h
    · exact absurd rfl (h1 _)
    · exact absurd rfl (h2 _ _)
    · exact h
theorem views_rep (hm : Mem F w0 ι H nx w) (hF : ∀ b, F' b → owned F ι H b) (hsub : ∀ i o, look H' i = some o → o.live = true → look H i = some o) : ∀ {ss : List SV} {us : List Value}, (Avoid F' ι H' ∨ ∀ s ∈ ss, refOkV F' ι H' s) → RepList w (owned F ι H) ι H nx ss us → RepList w F' (fun _ => none) [] 0 (views H' ss) us
  | [], us, _, h => by rw [replist_nil h]; exact replist_mk0
  | s :: r, us, hr, h => by
    obtain ⟨u, ur, rfl, hu, hur⟩ := replist_cons h
    exact replist_mk (view_rep hm hF hsub (hr.imp id fun h => h s (by simp)) hu) (views_rep hm hF hsub (hr.imp id fun h s hs => h s (by simp [hs])) hur)
end

section
variable {w : World} {own : Nat → Prop} {ι : Iota} {H : List (Nat × Ob)} {nx : Nat}
theorem leC_rep {x y : CV} {u : Value} (h : leC x y) (hr : RepC w own x u) : RepC w own y u := by
  unfold leC at h
  split at h
  · subst h
    cases hr
    exact .sl _ [] none 0 [] (by simp) (by simp) (by omega) (by simp) (by simp) (by simp)
  · subst h; exact hr
theorem le0_rep {x y : SV} {u : Value} (h : le0 x y) (hr : Rep w own ι H nx x u) : Rep w own ι H nx y u := by
  unfold le0 at h
  split at h
  · cases hr with | c _ _ hr => exact .c _ _ (leC_rep h hr)
  · subst h; exact hr
theorem le0_cell {x y : SV} (h : le0 x y) : y.cell = x.cell := by
  unfold le0 at h
  split at h
  · rfl
  · subst h; rfl
theorem leL_rep : ∀ {xs ys : List SV} {us : List Value}, leL xs ys → RepList w own ι H nx xs us → RepList w own ι H nx ys us
  | [], [], us, _, h => h
  | [], y :: t, us, h, _ => h.elim
  | x :: r, [], us, h, _ => h.elim
  | x :: r, y :: t, us, h, hr => by
    obtain ⟨u, ur, rfl, hu, hur⟩ := replist_cons hr
    exact replist_mk (le0_rep h.1 hu) (leL_rep h.2 hur)
theorem leL_cell : ∀ {xs ys : List SV}, leL xs ys → (∀ s ∈ xs, s.cell = true) → ∀ s ∈ ys, s.cell = true
  | [], [], _, _ => by simp
  | [], y :: t, h, _ => h.elim
  | x :: r, [], h, _ => h.elim
  | x :: r, y :: t, h, hc => by
    intro s hs
    rcases List.mem_cons.1 hs with rfl | hs
    · rw [le0_cell h.1]; exact hc x (by simp)
    · exact leL_cell h.2 (fun s hs => hc s (by simp [hs])) s hs
theorem leV_rep {x y : SV} {u : Value} (h : leV x y) (hr : Rep w own ι H nx x u) : Rep w own ι H nx y u := by
  unfold leV at h
  split at h
  · cases hr with
    | agg _ vs hl hc hr =>
      obtain ⟨h1, h2⟩ := leL_rep h ⟨hl, hr⟩
      exact .agg _ vs h1 (leL_cell h hc) h2
  · cases hr with
    | tup _ vs hl hr =>
      obtain ⟨h1, h2⟩ := leL_rep h ⟨hl, hr⟩
      exact .tup _ vs h1 h2
  · exact le0_rep h hr
theorem leVs_rep : ∀ {xs ys : List SV} {us : List Value}, leVs xs ys → RepList w own ι H nx xs us → RepList w own ι H nx ys us
  | [], [], us, _, h => h
  | [], y :: t, us, h, _ => h.elim
  | x :: r, [], us, h, _ => h.elim
  | x :: r, y :: t, us, h, hr => by
    obtain ⟨u, ur, rfl, hu, hur⟩ := replist_cons hr
    exact replist_mk (leV_rep h.1 hu) (leVs_rep h.2 hur)

theorem plain1_rep {w' : World} {own' : Nat → Prop} {ι' : Iota} {H' : List (Nat × Ob)} {nx' : Nat} {s : SV} {u : Value} (hp : plain1 s = true) (h : Rep w own ι H nx s u) : Rep w' own' ι' H' nx' s u := by
  unfold plain1 at hp
  split at hp
  · rw [rep_int h]; exact rep_mk_int _ _
  · rw [rep_bool h]; exact rep_mk_bool _
  · cases hp
theorem plainV_rep {w' : World} {own' : Nat → Prop} {ι' : Iota} {H' : List (Nat × Ob)} {nx' : Nat} {s : SV} {u : Value} (hp : plainV s = true) (h : Rep w own ι H nx s u) : Rep w' own' ι' H' nx' s u := by
  unfold plainV at hp
  split at hp
  · cases h with
    | agg _ vs hl hc h => exact .agg _ vs hl hc fun i s v hs hv => plain1_rep (List.all_eq_true.1 hp s (List.mem_of_getElem? hs)) (h i s v hs hv)
  · cases h with
    | tup _ vs hl h => exact .tup _ vs hl fun i s v hs hv => plain1_rep (List.all_eq_true.1 hp s (List.mem_of_getElem? hs)) (h i s v hs hv)
  · exact plain1_rep hp h
theorem free1_ok {F' : Nat → Prop} {s : SV} (h : free1 s = true) : refOk F' ι H s := by
  unfold free1 at h
  split at h <;> first | trivial | (cases h)
theorem freeL_ok {F' : Nat → Prop} : ∀ {ss : List SV}, freeL ss = true → ∀ s ∈ ss, refOkV F' ι H s
  | [], _ => by simp
  | x :: r, h => by
    simp only [freeL, Bool.and_eq_true] at h
    obtain ⟨h1, h2⟩ := h
    intro s hs
    rcases List.mem_cons.1 hs with rfl | hs
    · unfold refOkV
      split
      · intro s hs; exact free1_ok (List.all_eq_true.1 h1 s hs)
      · intro s hs; exact free1_ok (List.all_eq_true.1 h1 s hs)
      · rename_i n1 n2
        split at h1
        · exact absurd rfl (n1 _)
        · exact absurd rfl (n2 _ _)
        · exact free1_ok h1
    · exact freeL_ok h2 s hs
theorem owned_nil {F : Nat → Prop} {ι : Iota} {b : Nat} : owned F ι [] b ↔ F b := by
  unfold owned
  exact ⟨fun h => h.elim id fun ⟨_, _, _, h, _⟩ => by simp [look] at h, .inl⟩
end

section
variable {P : Program} {F : Nat → Prop} {w0 w : World} {ι : Iota} {H : List (Nat × Ob)} {nx : Nat}
theorem owned_lt (hm : Mem F w0 ι H nx w) {b : Nat} (h : owned F ι H b) : b < w.heap.size := by
  rcases h with h | ⟨id, o, c, hh, hl, hι⟩
  · exact Nat.lt_of_lt_of_le (hm.fb b h) hm.below.size
  · obtain ⟨_, ho⟩ := hm.heap id o hh
    cases o with
    | box cs =>
      obtain ⟨b', c', cur, e, h1, _, h2, _⟩ := ho
      rw [hι] at h1; cases h1
      exact lt_of_heap h2
    | row e k es =>
      obtain ⟨xs, h1, _⟩ := ho
      rw [hι] at h1
      rcases h1.2 with ⟨h', _⟩ | ⟨g, cap, cur, h', hb, hg, _⟩
      · simp [ownVal] at h'
      · simp only [ownVal, Value.slice.injEq, Option.some.injEq, Addr.mk.injEq, and_true, true_and] at h'
        obtain ⟨rfl, _⟩ := h'
        exact lt_of_heap hg
    | map kn ag kv =>
      obtain ⟨b', c', _, _, h1, _, h2, _⟩ := ho
      rw [hι] at h1; cases h1
      exact lt_of_heap h2
    | dead => simp [Ob.live] at hl

theorem run_callFunc {f : Nat} (h : callable P f = true) (args : Array Value) (w : World) : (callFunc f args).run P w = .ok (.enter f args) w := by
  unfold callable at h
  split at h
  · rename_i fn hf
    simp only [Bool.and_eq_true, Bool.not_eq_true'] at h
    have hb : ¬ fn.body = none := by cases hh : fn.body <;> simp_all
    have h2 : ¬ fn.name = "runtime.NumGoroutine" := by simpa using h.2
    unfold callFunc
    simp [run_program, hf, h2, hb]
  · cases h

/-- A call that is met by a contract and gives nothing away. -/
theorem callV_ok {f : Nat} {xs : List SV} {us : List Value} {v : SV} (hm : Mem F w0 ι H nx w) (hx : RepList w (owned F ι H) ι H nx xs us) (hp : callV P f H xs fun r obs => obs = [] ∧ norm r (· = v)) :
    Calls P f us.toArray w fun e w' => ∃ u, e = .returned u ∧ w.drawn ≤ w'.drawn ∧ Below w.heap.size w w' ∧ Rep w' (owned F ι H) ι H nx v u := by
  obtain ⟨S, hS, x, hpre, hl, hf, hobs, hn⟩ := hp
  have main : ∀ F' : Nat → Prop, (∀ b, F' b → owned F ι H b) → (Avoid F' ι H ∨ ∀ s ∈ xs, refOkV F' ι H s) → Calls P f us.toArray w (CallPost F' w (S.res x) (S.obs x)) := fun F' h1 h2 =>
    hS x F' w us hpre (fun b hb => owned_lt hm (h1 b hb)) (leVs_rep hl (views_rep hm h1 (fun _ _ h _ => h) h2 hx))
  rcases hf with hf | hf
  · refine (main (owned F ι H) (fun _ h => h) (.inr (freeL_ok hf))).mono ?_
    rintro e w' ⟨u, ι', rfl, hb, hd, hr, _⟩
    rw [hobs] at hr
    refine ⟨u, rfl, hd, hb, norm_rep hn (hr.keep ⟨Nat.le_refl _, fun _ _ _ _ _ h => h, fun b _ h => owned_nil.2 h⟩ ⟨Nat.zero_le _, fun id _ h => absurd h (Nat.not_lt_zero _), fun id _ _ _ h => absurd h (Nat.not_lt_zero _), fun id _ _ _ h => absurd h (Nat.not_lt_zero _)⟩)⟩
  · refine (main (fun _ => False) (fun _ h => h.elim) (.inl fun _ _ _ _ _ _ _ h => h)).mono ?_
    rintro e w' ⟨u, ι', rfl, hb, hd, hr, _⟩
    exact ⟨u, rfl, hd, hb, norm_rep hn (plainV_rep hf hr)⟩
end
end Go.Proofs.Ytfghmpfiemmbgaa
