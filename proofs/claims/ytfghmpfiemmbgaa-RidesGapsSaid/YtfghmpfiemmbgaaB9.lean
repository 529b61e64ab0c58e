/- The abstract walk is sound: whole texts. No program in sight. -/
import Derived.Test.YtfghmpfiemmbgaaB8
import Derived.Deep.LoopGhost
namespace Go.Proofs.Ytfghmpfiemmbgaa
open Go.RowKit

/-- The rows to be sealed ahead of the region whose first operation fills a given slot. -/
def sealsAt (l : List Opn) : List (Nat × Nat) → List Nat
  | [] => []
  | (d, t) :: r => match l with
    | ⟨some d', _, _, _⟩ :: _ => (match Nat.beq d d' with
      | true => t :: sealsAt l r
      | false => sealsAt l r)
    | _ => []
def withSeals (c : IC) : List Nat → IC
  | [] => c
  | t :: r => .seq (.sealc t) (withSeals c r)
def lowC (P : Program) (q : Opts) (n : Nat) : Code → Option IC
  | .skip => some .skip
  | .ret => some .ret
  | .region _ ops d => if ops.toList.all (fun o => dstOk n o.dst) then (match lowIOs P q ops ops.toList with
    | some l => (match !d || (orderB ops l && downB ops) with
      | true => some (withSeals (.ops l d) (sealsAt l q.seals))
      | false => none)
    | none => none) else none
  | .seq a b => match lowC P q n a, lowC P q n b with
    | some x, some y => some (.seq x y)
    | _, _ => none
  | .cond c a b => match lowC P q n a, lowC P q n b with
    | some x, some y => some (.cond c x y)
    | _, _ => none
  | .block id a => match lowC P q n a with
    | some x => some (.block id x)
    | none => none
  | .loop a => match lowC P q n a with
    | some x => some (.loop x)
    | none => none
  | .exit id => some (.exit id)
  | _ => none
def lowRV (P : Program) : ResultVar → Option RV
  | .tmp t => some (.tmp t)
  | .cell t ty => match sizeOfT P ty, P.underlying ty with
    | some k, some u => if aggD u = false → k = 1 then some (.cell t k (aggD u)) else none
    | _, _ => none
def lowRVs (P : Program) : List ResultVar → Option (List RV)
  | [] => some []
  | x :: r => match lowRV P x, lowRVs P r with
    | some y, some l => some (y :: l)
    | _, _ => none
def lowF (P : Program) (q : Opts) (f : Func) : Option IFn :=
  match f.body with
  | some c => match lowC P q f.ntmps c, lowRVs P f.results.toList with
    | some x, some r => some ⟨f.ntmps, r, x⟩
    | _, _ => none
  | none => none

/-! ### states that meet -/
theorem nodupB_spec : ∀ {l : List Nat}, nodupB l = true → ∀ (i j : Nat) (x : Nat), l[i]? = some x → l[j]? = some x → i = j
  | [], _, i, j, x, h, _ => by simp at h
  | y :: r, h, i, j, x, hi, hj => by
    simp only [nodupB, Bool.and_eq_true, Bool.not_eq_true'] at h
    obtain ⟨h1, h2⟩ := h
    have hn : y ∉ r := by simpa using h1
    cases i with
    | zero =>
      cases j with
      | zero => rfl
      | succ j =>
        simp at hi hj
        subst hi
        exact absurd (List.mem_of_getElem? hj) hn
    | succ i =>
      cases j with
      | zero =>
        simp at hi hj
        subst hj
        exact absurd (List.mem_of_getElem? hi) hn
      | succ j =>
        have := nodupB_spec h2 i j x (by simpa using hi) (by simpa using hj)
        omega
theorem look_mem {α : Type} : ∀ {l : List (Nat × α)} {i : Nat} {x : α}, look l i = some x → (i, x) ∈ l
  | [], i, x, h => by simp [look] at h
  | (j, y) :: r, i, x, h => by
    rw [look_cons] at h
    split at h
    · rename_i e; cases h; subst e; simp
    · exact List.mem_cons_of_mem _ (look_mem h)
theorem meetE_mem {σ : List (Nat × Nat)} {s : St} {nx : Nat} : ∀ {l : List (Nat × SV)}, meetE σ s nx l → ∀ t v, (t, v) ∈ l → look s.env t = some (renV σ v) ∧ bnd1 nx v = true
  | [], _, t, v, h => by simp at h
  | (t', v') :: r, hm, t, v, h => by
    rcases List.mem_cons.1 h with h | h
    · cases h; exact hm.1
    · exact meetE_mem hm.2 t v h
theorem meetH_mem {σ : List (Nat × Nat)} {s : St} {nx : Nat} : ∀ {l : List (Nat × Ob)}, meetH σ s nx l → ∀ id o, (id, o) ∈ l → look s.heap (ren σ id) = some (renO σ o) ∧ Nat.blt id nx = true ∧ bndO nx o = true
  | [], _, id, o, h => by simp at h
  | (id', o') :: r, hm, id, o, h => by
    rcases List.mem_cons.1 h with h | h
    · cases h; exact hm.1
    · exact meetH_mem hm.2 id o h
theorem renL_map (σ : List (Nat × Nat)) : ∀ l : List SV, renV.renL σ l = l.map (renV σ)
  | [] => rfl
  | s :: r => by simp [renV.renL, renL_map σ r]
theorem bndL_all (nx : Nat) : ∀ l : List SV, bnd1.bndL nx l = l.all (bnd1 nx)
  | [] => rfl
  | s :: r => by simp [bnd1.bndL, bndL_all nx r]
theorem renV_cell (σ : List (Nat × Nat)) (s : SV) : (renV σ s).cell = s.cell := by cases s <;> rfl
theorem renO_live (σ : List (Nat × Nat)) (o : Ob) : (renO σ o).live = o.live := by cases o <;> rfl

section
variable {P : Program} {F : Nat → Prop} {w0 w : World} {n : Nat} {ι : Iota} {s t : St} {a : Act}

theorem ren_rep {σ : List (Nat × Nat)} {own own' : Nat → Prop} {H H' : List (Nat × Ob)} {nx nx' : Nat} (hown : ∀ b, own' b → own b) (hH : ∀ id o, look H' id = some o → look H (ren σ id) = some (renO σ o)) :
    ∀ (v : SV) (u : Value), Rep w own ι H nx (renV σ v) u → bnd1 nx' v = true → Rep w own' (fun id => ι (ren σ id)) H' nx' v u := by
  have kp : Keeps w w own own' := ⟨Nat.le_refl _, fun _ _ _ _ _ h => h, fun b _ h => hown b h⟩
  intro v
  induction v using SV.rec (motive_2 := fun l => ∀ x ∈ l, ∀ u, Rep w own ι H nx (renV σ x) u → bnd1 nx' x = true → Rep w own' (fun id => ι (ren σ id)) H' nx' x u) with
  | c cv => intro u h _; cases h with | c _ _ h => exact .c _ _ (h.keep kp)
  | agg cs ih =>
    intro u h hb
    simp only [renV, renL_map] at h
    simp only [bnd1, bndL_all] at hb
    cases h with
    | agg _ vs hl hc h =>
      refine .agg cs vs (by simpa using hl) (fun x hx => ?_) fun i x v hx hv => ?_
      · have := hc (renV σ x) (List.mem_map.2 ⟨x, hx, rfl⟩)
        rw [renV_cell] at this; exact this
      · exact ih x (List.mem_of_getElem? hx) v (h i _ v (by rw [List.getElem?_map, hx]; rfl) hv) (List.all_eq_true.1 hb x (List.mem_of_getElem? hx))
  | bp id j =>
    intro u h hb
    cases h with
    | bp _ _ _ hx h1 h => exact .bp id j u (by simpa [bnd1, Nat.blt_eq] using hb) h1 fun cs hh => by have := hH id _ hh; exact h _ this
  | ep id k i j =>
    intro u h hb
    cases h with
    | ep _ _ _ _ _ hx h1 h => exact .ep id k i j u (by simpa [bnd1, Nat.blt_eq] using hb) h1 fun e k' es hh => by have := hH id _ hh; exact h _ _ _ this
  | osl id =>
    intro u h hb
    cases h with
    | osl _ _ hx h1 h => exact .osl id u (by simpa [bnd1, Nat.blt_eq] using hb) h1 fun e k' es hh => by have := hH id _ hh; exact h _ _ _ this
  | rp cs =>
    intro u h _
    cases h with
    | rp _ b off xs hl hb ho hx h => exact .rp cs b off xs hl hb (fun h => ho (hown b h)) hx fun i c v hc hv => (h i c v hc hv).keep kp
  | mp id =>
    intro u h hb
    cases h with
    | mp _ _ hx h1 h => exact .mp id u (by simpa [bnd1, Nat.blt_eq] using hb) h1 fun kn ag kv hh => by have := hH id _ hh; exact h _ _ _ this
  | fn f cs ih =>
    intro u h hb
    simp only [renV, renL_map] at h
    simp only [bnd1, bndL_all] at hb
    cases h with
    | fn _ _ vs hl h => exact .fn f cs vs (by simpa using hl) fun i x v hx hv => ih x (List.mem_of_getElem? hx) v (h i _ v (by rw [List.getElem?_map, hx]; rfl) hv) (List.all_eq_true.1 hb x (List.mem_of_getElem? hx))
  | tup cs ih =>
    intro u h hb
    simp only [renV, renL_map] at h
    simp only [bnd1, bndL_all] at hb
    cases h with
    | tup _ vs hl h => exact .tup cs vs (by simpa using hl) fun i x v hx hv => ih x (List.mem_of_getElem? hx) v (h i _ v (by rw [List.getElem?_map, hx]; rfl) hv) (List.all_eq_true.1 hb x (List.mem_of_getElem? hx))
  | none_ => intro u _ _; exact .none_ u
  | und => intro u h _; cases h; exact .und
  | nil => rename_i hy _ _ _; cases hy
  | cons x r ih1 ih2 =>
    rename_i y hy u h1 h2
    rcases List.mem_cons.1 hy with rfl | hy
    · exact ih1 u h1 h2
    · exact ih2 y hy u h1 h2

theorem meets_rel (h : Rel F w0 n ι s a w) (hm : Meets s t) : ∃ ι', Rel F w0 n ι' t a w := by
  obtain ⟨σ, hE, hH, hn, hk⟩ := hm
  have hHm : ∀ id o, look t.heap id = some o → look s.heap (ren σ id) = some (renO σ o) ∧ Nat.blt id t.nx = true ∧ bndO t.nx o = true := fun id o ho => meetH_mem hH id o (look_mem ho)
  have hown : ∀ b, owned F (fun id => ι (ren σ id)) t.heap b → owned F ι s.heap b := by
    intro b hb
    rcases hb with hb | ⟨id, o, c, q1, q2, q3⟩
    · exact .inl hb
    · exact .inr ⟨ren σ id, _, c, (hHm id o q1).1, by rw [renO_live]; exact q2, q3⟩
  have kp : Keeps w w (owned F ι s.heap) (owned F (fun id => ι (ren σ id)) t.heap) := ⟨Nat.le_refl _, fun _ _ _ _ _ h => h, fun b _ h => hown b h⟩
  refine ⟨fun id => ι (ren σ id), h.size, h.defers, h.drawn, ⟨h.mem.below, h.mem.fb, fun id o ho => ?_, fun id id' o o' b c c' h1 l1 h2 l2 i1 i2 => ?_⟩, fun tm v hv => ?_⟩
  · obtain ⟨q1, q2, q3⟩ := hHm id o ho
    refine ⟨by simpa [Nat.blt_eq] using q2, ?_⟩
    obtain ⟨_, hob⟩ := h.mem.heap _ _ q1
    cases o with
    | box cs =>
      simp only [renO, renL_map] at hob
      obtain ⟨b, c, cur, e, g1, g2, g3, g4, g5⟩ := hob
      refine ⟨b, c, cur, e, g1, g2, g3, by simpa using g4, fun j x u hx hu => ?_⟩
      have hx' : (cs.map (renV σ))[j]? = some (renV σ x) := by rw [List.getElem?_map, hx]; rfl
      obtain ⟨p1, p2⟩ := g5 j _ u hx' hu
      rw [renV_cell] at p1
      simp only [bndO, bndL_all] at q3
      exact ⟨p1, ren_rep hown (fun id o ho => (hHm id o ho).1) x u p2 (List.all_eq_true.1 q3 x (List.mem_of_getElem? hx))⟩
    | row e k es =>
      obtain ⟨xs, g1, g2, g3⟩ := hob
      exact ⟨xs, g1, g2, fun i c v hc hv => (g3 i c v hc hv).keep kp⟩
    | map kn ag kv =>
      obtain ⟨b, c, g⟩ := hob
      exact ⟨b, c, g⟩
    | dead => trivial
  · have e : ren σ id = ren σ id' := h.mem.inj _ _ _ _ b c c' (hHm id o h1).1 (by rw [renO_live]; exact l1) (hHm id' o' h2).1 (by rw [renO_live]; exact l2) i1 i2
    obtain ⟨p, hp⟩ := List.getElem?_of_mem (look_mem h1)
    obtain ⟨p', hp'⟩ := List.getElem?_of_mem (look_mem h2)
    have e1 : (t.heap.map fun p => ren σ p.1)[p]? = some (ren σ id) := by rw [List.getElem?_map, hp]; rfl
    have e2 : (t.heap.map fun p => ren σ p.1)[p']? = some (ren σ id) := by rw [List.getElem?_map, hp', e]; rfl
    have := nodupB_spec hn p p' _ e1 e2
    subst this
    rw [hp] at hp'
    cases hp'; rfl
  · obtain ⟨q1, q2⟩ := meetE_mem hE tm v (look_mem hv)
    exact ren_rep hown (fun id o ho => (hHm id o ho).1) v _ (h.env tm _ q1) q2

/-! ### sealing -/
theorem look_sealE (id k : Nat) (es : List (List CV)) : ∀ (l : List (Nat × SV)) (t : Nat) (v : SV), look (sealE id k es l) t = some v → ∃ v0, look l t = some v0 ∧ v = sealV id k es v0
  | [], t, v, h => by simp [sealE, look] at h
  | (i, x) :: r, t, v, h => by
    rw [sealE, look_cons] at h
    rw [look_cons]
    by_cases e : i = t
    · rw [if_pos e] at h ⊢; cases h; exact ⟨x, rfl, rfl⟩
    · rw [if_neg e] at h ⊢; exact look_sealE id k es r t v h
theorem look_sealH (id k : Nat) (es : List (List CV)) : ∀ (l : List (Nat × Ob)) (t : Nat) (v : Ob), look (sealH id k es l) t = some v → ∃ v0, look l t = some v0 ∧ v = sealO id k es v0
  | [], t, v, h => by simp [sealH, look] at h
  | (i, x) :: r, t, v, h => by
    rw [sealH, look_cons] at h
    rw [look_cons]
    by_cases e : i = t
    · rw [if_pos e] at h ⊢; cases h; exact ⟨x, rfl, rfl⟩
    · rw [if_neg e] at h ⊢; exact look_sealH id k es r t v h
theorem sealO_live (id k : Nat) (es : List (List CV)) (o : Ob) : (sealO id k es o).live = o.live := by cases o <;> rfl
theorem sealL_get (id k : Nat) (es : List (List CV)) : ∀ (cs : List SV) (j : Nat), (sealL id k es cs)[j]? = (cs[j]?).map (seal1 id k es)
  | [], j => by simp [sealL]
  | c :: r, 0 => by simp [sealL]
  | c :: r, j + 1 => by simp [sealL, sealL_get id k es r j]
theorem sealL_len (id k : Nat) (es : List (List CV)) : ∀ cs : List SV, (sealL id k es cs).length = cs.length
  | [] => rfl
  | c :: r => by simp [sealL, sealL_len id k es r]
theorem seal1_cell (id k : Nat) (es : List (List CV)) (s : SV) (h : s.cell = true) : (seal1 id k es s).cell = true := by
  unfold seal1; split
  · split <;> rfl
  · exact h
theorem seal_rel {e k id : Nat} {es : List (List CV)} {ι : Iota} {s : St} {a : Act} {w : World} (h : Rel F w0 n ι s a w) (hh : look s.heap id = some (.row e k es)) :
    Rel F w0 n ι ⟨sealE id k es s.env, (id, .dead) :: sealH id k es s.heap, s.nx⟩ a w := by
  have hid := (h.mem.heap id _ hh).1
  -- objects of the new heap
  have hobj : ∀ i o, look ((id, Ob.dead) :: sealH id k es s.heap) i = some o → o.live = true → i ≠ id ∧ ∃ o0, look s.heap i = some o0 ∧ o = sealO id k es o0 ∧ o0.live = true := by
    intro i o ho hl
    rw [look_cons] at ho
    by_cases e1 : id = i
    · rw [if_pos e1] at ho; cases ho; cases hl
    · rw [if_neg e1] at ho
      obtain ⟨o0, g1, rfl⟩ := look_sealH _ _ _ _ _ _ ho
      exact ⟨fun h => e1 h.symm, o0, g1, rfl, by rw [sealO_live] at hl; exact hl⟩
  have hown : ∀ b, owned F ι ((id, Ob.dead) :: sealH id k es s.heap) b → owned F ι s.heap b := by
    intro b hb
    rcases hb with hb | ⟨i, o, c, g1, g2, g3⟩
    · exact .inl hb
    · obtain ⟨_, o0, q1, rfl, q3⟩ := hobj i o g1 g2
      exact .inr ⟨i, o0, c, q1, q3, g3⟩
  have hkeep : Keeps w w (owned F ι s.heap) (owned F ι ((id, Ob.dead) :: sealH id k es s.heap)) := ⟨Nat.le_refl _, fun _ _ _ _ _ h => h, fun b _ h => hown b h⟩
  have hsh : Shapes ι ι s.heap ((id, Ob.dead) :: sealH id k es s.heap) s.nx s.nx := by
    refine ⟨Nat.le_refl _, fun i cs _ ho => ⟨rfl, ?_⟩, fun i e' k' es' _ ho => ⟨rfl, ?_⟩, fun i kn ag kv _ ho => ⟨rfl, ?_⟩⟩
    · obtain ⟨_, o0, q1, q2, _⟩ := hobj i _ ho rfl
      cases o0 <;> simp [sealO] at q2
      exact ⟨_, q1⟩
    · obtain ⟨_, o0, q1, q2, _⟩ := hobj i _ ho rfl
      cases o0 <;> simp [sealO] at q2
      obtain ⟨rfl, rfl, rfl⟩ := q2
      exact ⟨_, _, _, q1, rfl⟩
    · obtain ⟨_, o0, q1, q2, _⟩ := hobj i _ ho rfl
      cases o0 <;> simp [sealO] at q2
      exact ⟨_, _, _, q1⟩
  have hfree : ∀ b c, ι id = some (b, c) → ¬ owned F ι ((id, Ob.dead) :: sealH id k es s.heap) b := by
    intro b c hι hb
    rcases hb with hb | ⟨i, o, c', g1, g2, g3⟩
    · have hlt := h.mem.fb b hb
      obtain ⟨xs, g1, _⟩ := (h.mem.heap id _ hh).2
      rw [hι] at g1
      have := (World.ownsRow.lt g1 b rfl).1
      omega
    · obtain ⟨q0, o0, q1, rfl, q3⟩ := hobj i o g1 g2
      exact q0 (h.mem.inj i id o0 _ b c' c q1 q3 hh rfl g3 hι)
  have hs1 : ∀ v u, Rep w (owned F ι s.heap) ι s.heap s.nx v u → Rep w (owned F ι ((id, Ob.dead) :: sealH id k es s.heap)) ι ((id, Ob.dead) :: sealH id k es s.heap) s.nx (seal1 id k es v) u := by
    intro v u hr
    unfold seal1
    split
    · rename_i i
      split
      · rename_i hb
        have := Nat.eq_of_beq_eq_true hb
        subst this
        cases hr with
        | osl _ _ hx h1 hv =>
          rw [hv _ _ _ hh]
          exact .c _ _ (row_view h.mem hown hh hfree)
      · exact hr.keep hkeep hsh
    · exact hr.keep hkeep hsh
  refine ⟨h.size, h.defers, h.drawn, ⟨h.mem.below, h.mem.fb, fun i o ho => ?_, fun i i' o o' b c c' h1 l1 h2 l2 i1 i2 => ?_⟩, fun t v ht => ?_⟩
  · dsimp only at ho ⊢
    by_cases hl : o.live = true
    · obtain ⟨q0, o0, q1, rfl, q3⟩ := hobj i o ho hl
      obtain ⟨g1, g2⟩ := h.mem.heap i o0 q1
      refine ⟨g1, ?_⟩
      cases o0 with
      | box cs =>
        obtain ⟨b, c, cur, e', r1, r2, r3, r4, r5⟩ := g2
        refine ⟨b, c, cur, e', r1, r2, r3, by rw [sealL_len]; exact r4, fun j sv u hj hu => ?_⟩
        rw [sealL_get] at hj
        cases hcj : cs[j]? with
        | none => rw [hcj] at hj; cases hj
        | some s0 =>
          rw [hcj] at hj
          cases hj
          obtain ⟨z1, z2⟩ := r5 j s0 u hcj hu
          exact ⟨seal1_cell _ _ _ _ z1, hs1 _ _ z2⟩
      | row e' k' es' =>
        obtain ⟨xs, r1, r2, r3⟩ := g2
        exact ⟨xs, r1, r2, fun i c v hc hv => (r3 i c v hc hv).keep hkeep⟩
      | map kn ag kv => exact g2
      | dead => cases q3
    · have hd : o = .dead := by cases o <;> simp [Ob.live] at hl ⊢
      subst hd
      rw [look_cons] at ho
      by_cases e1 : id = i
      · subst e1; exact ⟨hid, trivial⟩
      · rw [if_neg e1] at ho
        obtain ⟨o0, g1, _⟩ := look_sealH _ _ _ _ _ _ ho
        exact ⟨(h.mem.heap i o0 g1).1, trivial⟩
  · obtain ⟨_, o0, q1, rfl, q3⟩ := hobj i o h1 l1
    obtain ⟨_, o0', q1', rfl, q3'⟩ := hobj i' o' h2 l2
    exact h.mem.inj i i' o0 o0' b c c' q1 q3 q1' q3' i1 i2
  · dsimp only at ht ⊢
    obtain ⟨v0, q1, rfl⟩ := look_sealE _ _ _ _ _ _ ht
    have hr := h.env t v0 q1
    generalize a.tmps.getD t undef = u0 at hr ⊢
    unfold sealV
    split
    · rename_i cs
      cases hr with
      | agg _ vs hl hc hr =>
        refine .agg _ vs (by rw [sealL_len]; exact hl) (fun x hx => ?_) fun i sv u hi hu => ?_
        · obtain ⟨j, hj⟩ := List.getElem?_of_mem hx
          rw [sealL_get] at hj
          cases hcj : cs[j]? with
          | none => rw [hcj] at hj; cases hj
          | some s0 => rw [hcj] at hj; cases hj; exact seal1_cell _ _ _ _ (hc s0 (List.mem_of_getElem? hcj))
        · rw [sealL_get] at hi
          cases hcj : cs[i]? with
          | none => rw [hcj] at hi; cases hi
          | some s0 => rw [hcj] at hi; cases hi; exact hs1 _ _ (hr i s0 u hcj hu)
    · exact hs1 _ _ hr
theorem seals_ok {c : IC} {Q : Ex → St → Prop} {a : Act} {w : World} : ∀ (ts : List Nat) (ι : Iota) (s : St), Rel F w0 n ι s a w → vc P (withSeals c ts) Q s → ∃ s', Rel F w0 n ι s' a w ∧ vc P c Q s'
  | [], ι, s, h, hv => ⟨s, h, hv⟩
  | t :: r, ι, s, h, hv => by
    simp only [withSeals, vc] at hv
    split at hv
    · split at hv
      · rename_i hh
        exact seals_ok r ι _ (seal_rel h hh) hv
      · exact hv.elim
    · exact hv.elim

/-! ### texts -/
/-- What is asked at the exits. -/
def QQ (F : Nat → Prop) (w0 : World) (n : Nat) (Q : Ex → St → Prop) : Exit → Act → World → Prop
  | .normal, a, w => ∃ ι s, Rel F w0 n ι s a w ∧ Q .normal s
  | .exit i, a, w => ∃ ι s, Rel F w0 n ι s a w ∧ Q (.exit i) s
  | .ret, a, w => ∃ ι s, Rel F w0 n ι s a w ∧ Q .ret s
  | _, _, _ => False

theorem vc_ok (hmix : P.follows .mixedOrders = true) {q : Opts} : ∀ (c : Code) (ic : IC), lowC P q n c = some ic → ∀ (Q : Ex → St → Prop) (ι : Iota) (s : St) (a : Act) (w : World), Rel F w0 n ι s a w → vc P ic Q s → c.wp P (QQ F w0 n Q) a w := by
  intro c
  induction c with
  | skip => intro ic hl Q ι s a w h hv; simp [lowC] at hl; subst hl; exact wp_skip ⟨ι, s, h, hv⟩
  | ret => intro ic hl Q ι s a w h hv; simp [lowC] at hl; subst hl; exact wp_ret ⟨ι, s, h, hv⟩
  | exit id => intro ic hl Q ι s a w h hv; simp [lowC] at hl; subst hl; exact wp_exit ⟨ι, s, h, hv⟩
  | region id ops d =>
    intro ic hl Q ι s a w h hv
    simp only [lowC] at hl
    split at hl
    · rename_i hall
      have hdst : ∀ o ∈ ops.toList, dstOk n o.dst = true := fun o ho => List.all_eq_true.1 hall o ho
      split at hl
      · rename_i l hlo
        split at hl
        · rename_i hd
          cases hl
          obtain ⟨s, h, hv⟩ := seals_ok _ ι s h hv
          cases d with
          | false => exact wp_region_list (opsV_ok (q := q) (K := Q .normal) hdst (fun ι s a w hr hk => ⟨ι, s, hr, hk⟩) ops.toList l (fun _ h => h) hlo ι s a w h hv)
          | true =>
            simp only [Bool.not_true, Bool.false_or, Bool.and_eq_true] at hd
            exact draw_ok (K := Q .normal) hmix hlo hd.1 hd.2 hdst (fun ι s a w hr hk => ⟨ι, s, hr, hk⟩) h hv
        · cases hl
      · cases hl
    · cases hl
  | seq x y ihx ihy =>
    intro ic hl Q ι s a w h hv
    simp only [lowC] at hl
    split at hl
    · rename_i ix iy h1 h2
      cases hl
      refine wp_seq (wp_mono (ihx ix h1 _ ι s a w h hv) fun e a' w' hq => ?_)
      cases e with
      | normal => obtain ⟨ι', s', hr, hk⟩ := hq; exact ihy iy h2 Q ι' s' a' w' hr hk
      | exit i => exact hq
      | ret => exact hq
      | goto l => exact hq
      | panic ch => exact hq
      | outgrown => exact hq
    · cases hl
  | cond c x y ihx ihy =>
    intro ic hl Q ι s a w h hv
    simp only [lowC] at hl
    split at hl
    · rename_i ix iy h1 h2
      cases hl
      simp only [vc] at hv
      split at hv
      · rename_i hc
        exact wp_cond_true (rep_bool (evalO_rep h hc)) (ihx ix h1 Q ι s a w h hv)
      · rename_i hc
        exact wp_cond_false (rep_bool (evalO_rep h hc)) (ihy iy h2 Q ι s a w h hv)
      · exact hv.elim
    · cases hl
  | block id x ih =>
    intro ic hl Q ι s a w h hv
    simp only [lowC] at hl
    split at hl
    · rename_i ix h1
      cases hl
      refine wp_block (wp_mono (ih ix h1 _ ι s a w h hv) fun e a' w' hq => ?_)
      cases e with
      | normal => exact hq
      | exit i =>
        obtain ⟨ι', s', hr, hk⟩ := hq
        simp only [Exit.inBlock]
        dsimp only at hk
        by_cases e : i = id
        · subst e
          rw [Nat.beq_refl] at hk
          rw [if_pos rfl]; exact ⟨ι', s', hr, hk⟩
        · rw [beq_ne e] at hk
          rw [if_neg e]; exact ⟨ι', s', hr, hk⟩
      | ret => exact hq
      | goto l => exact hq
      | panic ch => exact hq
      | outgrown => exact hq
    · cases hl
  | loop x ih =>
    intro ic hl Q ι s a w h hv
    simp only [lowC] at hl
    split at hl
    · rename_i ix h1
      cases hl
      simp only [vc] at hv
      obtain ⟨X, I, inv, μ, ⟨x0, hx0, hm0⟩, hstep⟩ := hv
      obtain ⟨ι0, h0⟩ := meets_rel h hm0
      refine wp_loop_ghost (fun k a w => ∃ (y : X) (ι : Iota), inv y ∧ μ y = k ∧ Rel F w0 n ι (I y) a w) (μ x0) ⟨x0, ι0, hx0, rfl, h0⟩ ?_
      rintro k a1 w1 ⟨y, ι1, hy, rfl, hr⟩
      refine wp_mono (ih ix h1 _ ι1 (I y) a1 w1 hr (hstep y hy)) fun e a' w' hq => ?_
      cases e with
      | normal =>
        obtain ⟨ι2, s2, hr2, y', ⟨hy', hlt⟩, hm'⟩ := hq
        obtain ⟨ι3, hr3⟩ := meets_rel hr2 hm'
        exact ⟨μ y', hlt, y', ι3, hy', rfl, hr3⟩
      | exit i => exact hq
      | ret => exact hq
      | goto l => exact hq
      | panic ch => exact hq
      | outgrown => exact hq
    · cases hl
  | rangeFunc => intro ic hl; simp [lowC] at hl
  | scope => intro ic hl; simp [lowC] at hl
  | label => intro ic hl; simp [lowC] at hl
  | goto => intro ic hl; simp [lowC] at hl
  | refuse => intro ic hl; simp [lowC] at hl
end
end Go.Proofs.Ytfghmpfiemmbgaa
