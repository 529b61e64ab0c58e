/- The abstract walk is sound: a function's contract out of its condition. No program in sight. -/
import Derived.Test.YtfghmpfiemmbgaaB9
namespace Go.Proofs.Ytfghmpfiemmbgaa
open Go.RowKit

section
variable {P : Program} {F : Nat → Prop} {w0 w : World} {n : Nat} {ι : Iota} {s : St} {a : Act}

/-- One result. -/
def resItem (tmps : Array Value) (r : ResultVar) : Sem Value :=
  match r with
  | .tmp t => pure (tmps.getD t undef)
  | .cell x t => do loadVar t (← asAddr (tmps.getD x undef))
theorem results_eq (fn : Func) (tmps : Array Value) : results fn tmps = (do
    let vs ← fn.results.mapM (resItem tmps)
    pure (if h : vs.size = 1 then vs[0] else .tuple vs)) := by
  unfold results
  congr 1
theorem res_run (h : Rel F w0 n ι s a w) : ∀ {rs : List ResultVar} {irs : List RV} {vs : List SV}, lowRVs P rs = some irs → resL s irs = some vs →
    ∃ us, (rs.mapM (resItem a.tmps)).run P w = .ok us w ∧ RepList w (owned F ι s.heap) ι s.heap s.nx vs us
  | [], irs, vs, hl, hr => by
    simp [lowRVs] at hl
    subst hl
    simp [resL] at hr
    subst hr
    exact ⟨[], by simp, replist_mk0⟩
  | x :: rs, irs, vs, hl, hr => by
    simp only [lowRVs] at hl
    split at hl
    · rename_i y l h1 h2
      cases hl
      simp only [resL] at hr
      split at hr
      · rename_i v vl h3 h4
        cases hr
        obtain ⟨us, hus, hrs⟩ := res_run h h2 h4
        have one : ∃ u, (resItem a.tmps x).run P w = .ok u w ∧ Rep w (owned F ι s.heap) ι s.heap s.nx v u := by
          cases x with
          | tmp t =>
            simp [lowRV] at h1
            subst h1
            exact ⟨_, rfl, h.env t v h3⟩
          | cell t ty =>
            simp only [lowRV] at h1
            split at h1
            · rename_i k u hk hu
              split at h1
              · rename_i hk1
                cases h1
                simp only [resOf] at h3
                split at h3
                · rename_i id j hlk
                  split at h3
                  · rename_i cs hh
                    obtain ⟨b, cur, e, hv, hcur, hrl, hcell, _⟩ := box_cells h.mem (h.env t _ hlk) hh
                    have hcl : cs.length = cur.size := by simpa using hrl.1
                    have key : j + k ≤ cs.length → (∀ z, ((aggD u = true ∧ z = .agg ((cur.toList.drop j).take k).toArray) ∨ (aggD u = false ∧ (cur.toList.drop j).take k = [z])) → Rep w (owned F ι s.heap) ι s.heap s.nx v z) →
                        ∃ z, (resItem a.tmps (.cell t ty)).run P w = .ok z w ∧ Rep w (owned F ι s.heap) ι s.heap s.nx v z := by
                      intro hle hz
                      obtain ⟨z, hrun, hz'⟩ := run_loadD (P := P) (w := w) hu hk hk1 (us := (cur.toList.drop j).take k) (b := b) (off := j) (by simp; omega) (fun i v hv => by
                        obtain ⟨g1, _⟩ := take_get _ _ _ _ hv
                        rw [List.getElem?_drop] at g1
                        rw [cell_of_cells hcur]; simpa using g1)
                      exact ⟨z, by simp only [resItem, Sem.run_bind, hv, asAddr, Sem.run_pure, Result.andThen_ok, hrun], hz z hz'⟩
                    cases ha : aggD u with
                    | true =>
                      rw [ha] at h3
                      dsimp only at h3
                      split at h3
                      · rename_i hb
                        cases h3
                        rw [Nat.ble_eq] at hb
                        refine key hb fun z hz => ?_
                        rcases hz with ⟨_, rfl⟩ | ⟨hf, _⟩
                        · obtain ⟨g1, g2⟩ := replist_sub hrl j k
                          exact .agg _ _ g1 (fun s hs => hcell s (List.mem_of_mem_drop (List.mem_of_mem_take hs))) g2
                        · rw [ha] at hf; cases hf
                      · cases h3
                    | false =>
                      rw [ha] at h3
                      dsimp only at h3
                      have hlt := (List.getElem?_eq_some_iff.1 h3).1
                      have hk' := hk1 ha
                      subst hk'
                      refine key (by omega) fun z hz => ?_
                      rcases hz with ⟨hf, _⟩ | ⟨_, hz⟩
                      · rw [ha] at hf; cases hf
                      · have : cur.toList[j]? = some z := by
                          have hj : j < cur.toList.length := by simp; omega
                          rw [List.drop_eq_getElem_cons hj] at hz
                          simp at hz
                          simp [← hz]
                        exact hrl.2 j v z h3 this
                  · cases h3
                · cases h3
              · cases h1
            · cases h1
        obtain ⟨u, hu, hru⟩ := one
        refine ⟨u :: us, ?_, replist_mk hru hrs⟩
        rw [List.mapM_cons]
        simp only [Sem.run_bind, hu, Result.andThen_ok, hus, Sem.run_pure]
      · cases hr
    · cases hl

theorem pos_spec {σ : List Nat} {id p : Nat} (h : pos σ id = some p) : σ[p]? = some id := by
  unfold pos at h
  obtain ⟨hlt, h1, _⟩ := List.findIdx?_eq_some_iff_getElem.1 h
  rw [List.getElem?_eq_getElem hlt, ← Nat.eq_of_beq_eq_true h1]
theorem pos_none {σ : List Nat} {id : Nat} (h : pos σ id = none) : id ∉ σ := by
  unfold pos at h
  intro hm
  have := List.findIdx?_eq_none_iff.1 h id hm
  rw [Nat.beq_refl] at this
  cases this
theorem obsOk_spec {H : List (Nat × Ob)} : ∀ {σ : List Nat} {obs : List Ob}, obsOk H σ obs → σ.length = obs.length ∧ ∀ (p : Nat) (id : Nat) (o : Ob), σ[p]? = some id → obs[p]? = some o → look H id = some o ∧ ∃ e k es, o = .row e k es
  | [], [], _ => by simp
  | [], o :: t, h => h.elim
  | id :: r, [], h => h.elim
  | id :: r, o :: t, h => by
    obtain ⟨h1, h2⟩ := obsOk_spec h.2
    refine ⟨by simp [h1], fun p id' o' hp ho => ?_⟩
    cases p with
    | zero => simp at hp ho; subst hp; subst ho; exact h.1
    | succ p => exact h2 p id' o' (by simpa using hp) (by simpa using ho)

theorem out_ok (h : Rel F w0 n ι s a w) {σ : List Nat} {obs : List Ob} (hn : nodupB σ = true) (ho : obsOk s.heap σ obs) :
    let ι1 : Iota := fun p => (σ[p]?).bind ι
    let H1 := idxFrom 0 obs
    (∀ v u, Rep w (owned F ι s.heap) ι s.heap s.nx v u → Rep w (owned F ι1 H1) ι1 H1 obs.length (outV σ s.heap v) u) ∧
    (∀ id o, look H1 id = some o → ObRep w (owned F ι1 H1) ι1 H1 obs.length w0.heap.size id o) ∧
    (∀ id id' o o' b c c', look H1 id = some o → o.live = true → look H1 id' = some o' → o'.live = true → ι1 id = some (b, c) → ι1 id' = some (b, c') → id = id') := by
  intro ι1 H1
  obtain ⟨hlen, hobs⟩ := obsOk_spec ho
  have hidx : ∀ i, look H1 i = obs[i]? := fun i => by show look (idxFrom 0 obs) i = _; rw [look_idx]; simp
  have hback : ∀ p o, look H1 p = some o → ∃ id, σ[p]? = some id ∧ look s.heap id = some o ∧ ι1 p = ι id ∧ ∃ e k es, o = .row e k es := by
    intro p o hp
    rw [hidx] at hp
    have hlt : p < σ.length := by rw [hlen]; exact (List.getElem?_eq_some_iff.1 hp).1
    have hs := List.getElem?_eq_getElem hlt
    obtain ⟨q1, q2⟩ := hobs p _ o hs hp
    exact ⟨_, hs, q1, by show (σ[p]?).bind ι = _; rw [hs]; rfl, q2⟩
  have hown : ∀ b, owned F ι1 H1 b → owned F ι s.heap b := by
    intro b hb
    rcases hb with hb | ⟨p, o, c, q1, q2, q3⟩
    · exact .inl hb
    · obtain ⟨id, _, g2, g3, _⟩ := hback p o q1
      rw [g3] at q3
      exact .inr ⟨id, o, c, g2, q2, q3⟩
  have kp : Keeps w w (owned F ι s.heap) (owned F ι1 H1) := ⟨Nat.le_refl _, fun _ _ _ _ _ h => h, fun b _ h => hown b h⟩
  have hout0 : ∀ v u, Rep w (owned F ι s.heap) ι s.heap s.nx v u → Rep w (owned F ι1 H1) ι1 H1 obs.length (out0 σ s.heap v) u := by
    intro v u hr
    unfold out0
    split
    · rename_i id
      split
      · rename_i p hp
        have hs := pos_spec hp
        have hlt : p < obs.length := by rw [← hlen]; exact (List.getElem?_eq_some_iff.1 hs).1
        cases hr with
        | osl _ _ hx h1 hr =>
          refine .osl p u hlt h1 fun e k es hh => ?_
          obtain ⟨id', g1, g2, g3, _⟩ := hback p _ hh
          rw [hs] at g1
          cases g1
          rw [g3]; exact hr _ _ _ g2
      · rename_i hp
        have hni := pos_none hp
        have href : refOk (owned F ι1 H1) ι s.heap (.osl id) := by
          intro o b c h1 h2 h3 hb
          rcases hb with hb | ⟨p, o', c', q1, q2, q3⟩
          · have hob := (h.mem.heap id o h1).2
            have := h.mem.fb b hb
            cases o with
            | box cs => obtain ⟨b', c'', _, _, g1, g2, _⟩ := hob; rw [h3] at g1; cases g1; omega
            | row e k es => obtain ⟨xs, g1, _⟩ := hob; rw [h3] at g1; have := (World.ownsRow.lt g1 b rfl).1; omega
            | map kn ag kv => obtain ⟨b', c'', _, _, g1, g2, _⟩ := hob; rw [h3] at g1; cases g1; omega
            | dead => cases h2
          · obtain ⟨id', g1, g2, g3, _⟩ := hback p o' q1
            rw [g3] at q3
            have := h.mem.inj id' id o' o b c' c g2 q2 h1 h2 q3 h3
            subst this
            exact hni (List.mem_of_getElem? g1)
        have := view0_rep (F' := owned F ι1 H1) h.mem hown (fun _ _ h _ => h) (.inr href) hr
        exact this.keep ⟨Nat.le_refl _, fun _ _ _ _ _ h => h, fun _ _ h => h⟩ ⟨Nat.zero_le _, fun id _ h => absurd h (Nat.not_lt_zero _), fun id _ _ _ h => absurd h (Nat.not_lt_zero _), fun id _ _ _ h => absurd h (Nat.not_lt_zero _)⟩
    · cases hr with | c _ _ hr => exact .c _ _ (hr.keep kp)
    · cases hr with | rp _ b off xs hl hb ho hx hr => exact .rp _ b off xs hl hb (fun h => ho (hown b h)) hx fun i c v hc hv => (hr i c v hc hv).keep kp
    · cases hr with | fn _ _ vs hl hr => exact .fn _ [] vs hl fun i s v hs _ => by simp at hs
    · exact .none_ u
  have houtL : ∀ cs us, RepList w (owned F ι s.heap) ι s.heap s.nx cs us → RepList w (owned F ι1 H1) ι1 H1 obs.length (outL σ s.heap cs) us := by
    intro cs
    induction cs with
    | nil => intro us hr; rw [replist_nil hr]; exact replist_mk0
    | cons x r ih =>
      intro us hr
      obtain ⟨u, ur, rfl, h1, h2⟩ := replist_cons hr
      exact replist_mk (hout0 x u h1) (ih ur h2)
  refine ⟨fun v u hr => ?_, fun id o ho => ?_, fun id id' o o' b c c' h1 l1 h2 l2 i1 i2 => ?_⟩
  · unfold outV
    split
    · split
      · rename_i hall
        cases hr with
        | agg _ vs hl hc hr =>
          obtain ⟨g1, g2⟩ := houtL _ vs ⟨hl, hr⟩
          exact .agg _ vs g1 (fun x hx => List.all_eq_true.1 hall x hx) g2
      · exact .none_ u
    · exact hout0 v u hr
  · obtain ⟨id', g1, g2, g3, e, k, es, rfl⟩ := hback id o ho
    obtain ⟨xs, p1, p2, p3⟩ := (h.mem.heap id' _ g2).2
    exact ⟨xs, by rw [g3]; exact p1, p2, fun i c v hc hv => (p3 i c v hc hv).keep kp⟩
  · obtain ⟨j, g1, g2, g3, _⟩ := hback id o h1
    obtain ⟨j', g1', g2', g3', _⟩ := hback id' o' h2
    rw [g3] at i1
    rw [g3'] at i2
    have := h.mem.inj j j' o o' b c c' g2 l1 g2' l2 i1 i2
    subst this
    exact nodupB_spec hn id id' _ g1 g1'

theorem argEnv_look : ∀ (l : List SV) (k t : Nat), look (argEnv k l) t = if k ≤ t then l[t - k]? else none
  | [], k, t => by simp [argEnv, look]
  | v :: r, k, t => by
    rw [argEnv, look_cons, argEnv_look r (k + 1) t]
    by_cases e : k = t
    · subst e; simp
    · rw [if_neg e]
      by_cases h : k + 1 ≤ t
      · rw [if_pos h, if_pos (by omega), show t - k = (t - (k + 1)) + 1 by omega]; simp
      · rw [if_neg h, if_neg (by omega)]

theorem leR_rep {own : Nat → Prop} {H : List (Nat × Ob)} {nx : Nat} {vs : List SV} {us : List Value} {r : SV} (h : leR vs r) (hr : RepList w own ι H nx vs us) : Rep w own ι H nx r (if h : us.toArray.size = 1 then us.toArray[0] else .tuple us.toArray) := by
  unfold leR at h
  split at h
  · obtain ⟨u, rfl, hu⟩ := replist_one hr
    simpa using leV_rep h hu
  · rename_i hne
    have hl := hr.1
    have hn1 : ¬ us.toArray.size = 1 := by
      intro h1
      simp at h1
      cases vs with
      | nil => simp at hl; omega
      | cons v r => cases r with
        | nil => exact hne v rfl
        | cons v' r => simp at hl; omega
    rw [dif_neg hn1]
    obtain ⟨h1, h2⟩ := leVs_rep h hr
    exact .tup _ us h1 h2
  · exact h.elim

/-- A function's contract. -/
theorem holds_of (hmix : P.follows .mixedOrders = true) {f : Nat} {fn : Func} {q : Opts} {ir : IFn} {C : Spec} (hf : P.funcs[f]? = some fn) (hl : lowF P q fn = some ir) (hlen : ∀ x, Nat.ble (C.args x).length ir.n = true) (hv : fnV P ir C) : Holds P f C := by
  intro x F w vs hpre hF hargs
  unfold lowF at hl
  split at hl
  · rename_i c hbody
    split at hl
    · rename_i ic irs h1 h2
      cases hl
      have hvl : vs.length ≤ fn.ntmps := by rw [← hargs.1]; have := hlen x; rwa [Nat.ble_eq] at this
      refine calls_of_wp hf hbody ?_
      have hrel : Rel F w fn.ntmps (fun _ => none) ⟨argEnv 0 (C.args x), [], 0⟩ { tmps := vs.toArray ++ Array.replicate (fn.ntmps - vs.toArray.size) undef, defers := [] } w := by
        refine ⟨by simp; omega, rfl, Nat.le_refl _, ⟨Below.refl _ _, hF, fun id o h => by simp [look] at h, fun id id' o o' b c c' h => by simp [look] at h⟩, fun t v ht => ?_⟩
        dsimp only at ht ⊢
        rw [argEnv_look] at ht
        simp at ht
        have hlt : t < vs.length := by rw [← hargs.1]; exact (List.getElem?_eq_some_iff.1 ht).1
        have hgd : (vs.toArray ++ Array.replicate (fn.ntmps - vs.toArray.size) undef).getD t undef = vs[t] := by
          rw [Array.getD_eq_getD_getElem?, Array.getElem?_append_left (by simpa using hlt)]
          simp [hlt]
        rw [hgd]
        have := hargs.2 t v _ ht (List.getElem?_eq_getElem hlt)
        exact this.keep ⟨Nat.le_refl _, fun _ _ _ _ _ h => h, fun b _ h => owned_nil.1 h⟩ (Shapes.refl _ _ _)
      refine wp_mono (vc_ok hmix c ic h1 _ _ _ _ _ hrel (hv x hpre)) fun e a' w' hq => ?_
      have fin : ∀ ι s, Rel F w fn.ntmps ι s a' w' → finV irs s (C.res x) (C.obs x) → a'.defers = [] ∧ ∃ v, (results fn a'.tmps).run P w' = .ok v w' ∧ CallPost F w (C.res x) (C.obs x) (.returned v) w' := by
        intro ι s hr hfin
        refine ⟨hr.defers, ?_⟩
        obtain ⟨σ, hn, hobs, hres⟩ := hfin
        split at hres
        · rename_i vs' hvs
          obtain ⟨us, hus, hrl⟩ := res_run hr h2 hvs
          obtain ⟨o1, o2, o3⟩ := out_ok hr hn hobs
          have hrl' : ∀ (vs : List SV) (us : List Value), RepList w' (owned F ι s.heap) ι s.heap s.nx vs us → RepList w' (owned F (fun p => (σ[p]?).bind ι) (idxFrom 0 (C.obs x))) (fun p => (σ[p]?).bind ι) (idxFrom 0 (C.obs x)) (C.obs x).length (outs σ s.heap vs) us := by
            intro vs
            induction vs with
            | nil => intro us h; rw [replist_nil h]; exact replist_mk0
            | cons v r ih =>
              intro us h
              obtain ⟨u, ur, rfl, g1, g2⟩ := replist_cons h
              exact replist_mk (o1 v u g1) (ih ur g2)
          refine ⟨_, ?_, _, _, rfl, hr.mem.below, hr.drawn, leR_rep hres (hrl' vs' us hrl), o2, o3⟩
          rw [results_eq, Array.mapM_eq_mapM_toList]
          simp only [Sem.run_bind, Sem.run_map, hus, Result.andThen_ok, Sem.run_pure]
        · exact hres.elim
      cases e with
      | normal => obtain ⟨ι, s, hr, hk⟩ := hq; exact fin ι s hr hk
      | ret => obtain ⟨ι, s, hr, hk⟩ := hq; exact fin ι s hr hk
      | exit i => obtain ⟨ι, s, hr, hk⟩ := hq; exact hk.elim
      | goto l => exact hq.elim
      | panic ch => exact hq.elim
      | outgrown => exact hq.elim
    · cases hl
  · cases hl
end
end Go.Proofs.Ytfghmpfiemmbgaa
