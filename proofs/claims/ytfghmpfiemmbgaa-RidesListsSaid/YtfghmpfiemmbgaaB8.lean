/- The abstract walk is sound: a region in any order, the theorem. No program in sight. -/
import Derived.Test.YtfghmpfiemmbgaaB7
namespace Go.Proofs.Ytfghmpfiemmbgaa
open Go.RowKit

section
variable {P : Program} {F : Nat → Prop} {w0 : World} {n : Nat} {ios : List Opn} {S : Nat → St} {ops : Array Oper}

theorem beq_ne {a b : Nat} (h : a ≠ b) : Nat.beq a b = false := by
  cases hb : Nat.beq a b with
  | false => rfl
  | true => exact absurd (Nat.eq_of_beq_eq_true hb) h
theorem pop_hfree {op : IOp} (h : op.hfree = true) {H H' : List (Nat × Ob)} {xs : List SV} {K : SV → Prop} (hp : pop P op H xs K) : pop P op H' xs K := by
  unfold pop at *
  cases op <;> first | (cases h; done) | exact hp
theorem eop_env {op : IOp} {s t : St} {xs : List SV} {v : SV} (hdet : op.det = true) (h : eop P op s xs (fun v' t' => v' = v ∧ t' = t)) (s2 : St) (h1 : s2.heap = s.heap) (h2 : s2.nx = s.nx) :
    eop P op s2 xs (fun v' t' => v' = v ∧ t'.heap = t.heap ∧ t'.nx = t.nx) := by
  have hnews : ∀ (obs : List Ob) (a b : St), a.heap = b.heap → a.nx = b.nx → (a.news obs).heap = (b.news obs).heap ∧ (a.news obs).nx = (b.news obs).nx := by
    intro obs
    induction obs with
    | nil => intro a b h1 h2; exact ⟨h1, h2⟩
    | cons o r ih => intro a b h1 h2; exact ih _ _ (by simp [St.new, h1, h2]) (by simp [St.new, h2])
  unfold eop at *
  rw [h1, h2]
  cases op <;> dsimp only at h ⊢
  case alloc => obtain ⟨rfl, rfl⟩ := h; exact ⟨rfl, by simp [St.new, h1, h2], by simp [St.new, h2]⟩
  case box =>
    split at h
    · obtain ⟨g, rfl, rfl⟩ := chk_iff.1 h; exact chk_iff.2 ⟨g, rfl, by simp [St.new, h1, h2], by simp [St.new, h2]⟩
    · exact h.elim
  case store =>
    split at h
    · split at h
      · rename_i hh
        obtain ⟨g, rfl, rfl⟩ := chk_iff.1 h
        exact chk_iff.2 ⟨g, rfl, by simp [St.put, h1], h2⟩
      · exact h.elim
    · split at h
      · rename_i hh1 hh2
        obtain ⟨g, g', h⟩ := chk_iff.1 h
        refine chk_iff.2 ⟨g, g', fun r hr => ?_⟩
        obtain ⟨rfl, rfl⟩ := h r hr
        exact ⟨rfl, by simp [St.put, h1], h2⟩
      · exact h.elim
    · exact h.elim
  case append =>
    split at h
    · split at h
      · rename_i hh
        obtain ⟨g, rfl, rfl⟩ := h
        exact ⟨g, rfl, by simp [St.new, h1, h2], by simp [St.new, h2]⟩
      · exact h.elim
    · split at h
      · rename_i hh1 hh2
        obtain ⟨g, g', rfl, rfl⟩ := chk_iff.1 h
        exact chk_iff.2 ⟨g, g', rfl, by simp [St.new, St.put, h1, h2], by simp [St.new, St.put, h2]⟩
      · exact h.elim
    · exact h.elim
  case mksl =>
    split at h
    · obtain ⟨g, rfl, rfl⟩ := h; exact ⟨g, rfl, by simp [St.new, h1, h2], by simp [St.new, h2]⟩
    · exact h.elim
  case mkmap =>
    split at h
    · obtain ⟨rfl, rfl⟩ := h; exact ⟨rfl, by simp [St.new, h1, h2], by simp [St.new, h2]⟩
    · obtain ⟨rfl, rfl⟩ := h; exact ⟨rfl, by simp [St.new, h1, h2], by simp [St.new, h2]⟩
    · exact h.elim
  case mapset =>
    split at h
    · split at h
      · rename_i hh1 hh2 hh3
        obtain ⟨g, rfl, rfl⟩ := chk_iff.1 h
        exact chk_iff.2 ⟨g, rfl, by simp [St.put, h1], h2⟩
      · exact h.elim
    · exact h.elim
  case lookup => cases hdet
  case buildOwn =>
    split at h
    · rename_i hh
      obtain ⟨rfl, rfl⟩ := h
      exact ⟨rfl, by simp [St.new, h1, h2], by simp [St.new, h2]⟩
    · exact h.elim
  case nilOwn => obtain ⟨rfl, rfl⟩ := h; exact ⟨rfl, by simp [St.new, h1, h2], by simp [St.new, h2]⟩
  case sliceF =>
    split at h
    · split at h
      · rename_i hh
        split at h
        · rename_i hh2
          obtain ⟨g, g', rfl, rfl⟩ := chk_iff.1 h
          exact chk_iff.2 ⟨g, g', rfl, by simp [St.put, h1], h2⟩
        · exact h.elim
      · exact h.elim
    · exact h.elim
  case isnil => cases hdet
  case callm => cases hdet
  case callo =>
    obtain ⟨ha, C, hC, x, hp, hl, hr, hn⟩ := h
    refine ⟨ha, C, hC, x, hp, hl, hr, norm_mono (fun u hu => ?_) hn⟩
    obtain ⟨q1, q2⟩ := hu
    subst q2
    obtain ⟨g1, g2⟩ := hnews (C.obs x) { s2 with heap := kills xs s.heap, nx := s.nx } { s with heap := kills xs s.heap } rfl rfl
    exact ⟨q1, g1, g2⟩
  all_goals exact h.elim

theorem rel_conv {ι : Iota} {s1 s2 : St} {a : Act} {w : World} (h : Rel F w0 n ι s1 a w) (h1 : s1.heap = s2.heap) (h2 : s1.nx = s2.nx) (he : ∀ t v, look s2.env t = some v → look s1.env t = some v) : Rel F w0 n ι s2 a w := by
  obtain ⟨e1, H1, n1⟩ := s1
  obtain ⟨e2, H2, n2⟩ := s2
  dsimp only at h1 h2
  subst h1; subst h2
  exact ⟨h.size, h.defers, h.drawn, h.mem, fun t v ht => h.env t v (he t v ht)⟩

theorem evalO_same {e1 e2 : List (Nat × SV)} {x : Operand} (h : ∀ t, x = .tmp t → look e1 t = look e2 t) : evalO e1 x = evalO e2 x := by
  cases x <;> first | rfl | exact h _ rfl
theorem evalL_same {e1 e2 : List (Nat × SV)} : ∀ {xs : List Operand}, (∀ t ∈ usesO xs, look e1 t = look e2 t) → evalL e1 xs = evalL e2 xs
  | [], _ => rfl
  | x :: r, h => by
    have h1 : evalO e1 x = evalO e2 x := evalO_same fun t e => by subst e; exact h t (by simp [usesO])
    have h2 : evalL e1 r = evalL e2 r := evalL_same fun t ht => h t (by cases x <;> simp [usesO, ht])
    simp only [evalL, h1, h2]

/-- The abstract state once the operations of D have come up. -/
def sD (ios : List Opn) (S : Nat → St) (D : Nat → Bool) : St := ⟨envL ios S D ios.length, (heapL ios S D ios.length).1, (heapL ios S D ios.length).2⟩

theorem lowIOs_get {q : Opts} : ∀ {l : List Oper} {ios : List Opn}, lowIOs P q ops l = some ios → ios.length = l.length ∧ ∀ (i : Nat) (o : Oper), l[i]? = some o → ∃ x, ios[i]? = some x ∧ lowIO P q ops o = some x
  | [], ios, h => by simp [lowIOs] at h; subst h; simp
  | o :: r, ios, h => by
    simp only [lowIOs] at h
    split at h
    · rename_i x l h1 h2
      cases h
      obtain ⟨g1, g2⟩ := lowIOs_get h2
      refine ⟨by simp [g1], fun i o' ho' => ?_⟩
      cases i with
      | zero => simp at ho'; subst ho'; exact ⟨x, rfl, h1⟩
      | succ i => exact g2 i o' (by simpa using ho')
    · cases h

theorem draw_step {q : Opts} {Q : Exit → Act → World → Prop} (hl : lowIOs P q ops ops.toList = some ios) (hord : orderB ops ios = true) (hdst : ∀ o ∈ ops.toList, dstOk n o.dst = true)
    (hS : ∀ i o, ios[i]? = some o → Goes P o (S i) (S (i + 1))) {D : Nat → Bool} (hD : Shut ops (D · = true)) {i : Nat} {o : Oper} (hi : ops[i]? = some o) (hni : D i = false) (hpre : ∀ e ∈ o.after.toList, Region.binds .any e = true → D e.on = true)
    {ι : Iota} {a : Act} {w : World} (h : Rel F w0 n ι (sD ios S D) a w) {K : Act → World → Prop}
    (hK : ∀ ι' a' w', Rel F w0 n ι' (sD ios S (fun k => D k || Nat.beq k i)) a' w' → K a' w') : wpOp P ops Q i K a w := by
  obtain ⟨hlen, hget⟩ := lowIOs_get hl
  have hi' : ops.toList[i]? = some o := by simpa using hi
  obtain ⟨x, hx, hlow⟩ := hget i o hi'
  have hil : i < ios.length := (List.getElem?_eq_some_iff.1 hx).1
  obtain ⟨io, args, hlo, e1, e2, e3, hg⟩ := lowIO_spec hlow
  have hdo := hdst o (by rw [Array.mem_toList_iff]; exact Array.mem_of_getElem? hi)
  have hD' : Shut ops (fun k => (D k || Nat.beq k i) = true) := by
    intro j oj hj hdj e he hb
    simp only [Bool.or_eq_true, Nat.beq_eq] at hdj ⊢
    rcases hdj with hdj | rfl
    · exact .inl (hD j oj hj hdj e he hb)
    · rw [hi] at hj; cases hj; exact .inl (hpre e he hb)
  have before : ∀ k y, k < i → ios[k]? = some y → needs y x = true → D k = true := by
    intro k y hk hy hn
    have := order_spec hord hD' hk hy hx hn (by simp)
    simp only [Bool.or_eq_true, Nat.beq_eq] at this
    rcases this with h | h
    · exact h
    · omega
  have after : ∀ k y, i < k → ios[k]? = some y → needs x y = true → D k = false := by
    intro k y hk hy hn
    cases hd : D k with
    | false => rfl
    | true => have := order_spec hord hD hk hx hy hn hd; rw [hni] at this; cases this
  have hlook : ∀ t ∈ x.uses, look (sD ios S D).env t = look (S i).env t := by
    intro t ht
    refine look_upto hS (by omega) fun k hk hw => ?_
    obtain ⟨y, hy, hyd⟩ := hw
    constructor
    · intro hd
      rcases Nat.lt_trichotomy k i with h | h | h
      · exact h
      · subst h; rw [hni] at hd; cases hd
      · have := after k y h hy (by simp [needs, hyd, ht]); rw [hd] at this; cases this
    · intro hk'
      exact before k y hk' hy (by simp [needs, hyd, ht])
  have hheap : (x.op.hfree = true ∧ x.op.eff = false) ∨ heapL ios S D ios.length = ((S i).heap, (S i).nx) := by
    by_cases hf : x.op.hfree = true
    · refine .inl ⟨hf, ?_⟩
      cases hxo : x.op <;> rw [hxo] at hf <;> first | rfl | (cases hf)
    · refine .inr (heapL_upto hS i (by omega) fun k hk he => ?_)
      have hy : ios[k]? = some ios[k] := List.getElem?_eq_getElem hk
      have hye : ios[k].op.eff = true := by simpa [effAt, hy] using he
      constructor
      · intro hd
        rcases Nat.lt_trichotomy k i with h | h | h
        · exact h
        · subst h; rw [hni] at hd; cases hd
        · have := after k _ h hy (by simp [needs, hye, hf]); rw [hd] at this; cases this
      · intro hk'
        exact before k _ hk' hy (by simp [needs, hye, hf])
  -- the new state
  have hnewl : ∀ (hp : List (Nat × Ob)) (nx : Nat) (v : SV), (∀ t, o.dst = some t → look (S (i + 1)).env t = some v) → ∀ t u, look (sD ios S (fun k => D k || Nat.beq k i)).env t = some u → look ((⟨(sD ios S D).env, hp, nx⟩ : St).set o.dst v).env t = some u := by
    intro hp nx v hv t u hu
    have agree : ∀ t, o.dst ≠ some t → look (sD ios S (fun k => D k || Nat.beq k i)).env t = look (sD ios S D).env t := by
      intro t ht
      refine envL_agree _ fun k hk hw => ?_
      have hne : k ≠ i := by
        rintro rfl
        obtain ⟨y, hy, hyd⟩ := hw
        rw [hx] at hy; cases hy
        rw [e1] at hyd; exact ht hyd
      have : Nat.beq k i = false := beq_ne hne
      simp [this]
    cases hdd : o.dst with
    | none => rw [agree t (by rw [hdd]; simp)] at hu; exact hu
    | some d =>
      simp only [St.set, look_cons]
      by_cases e : d = t
      · subst e
        rw [if_pos rfl]
        rw [show look (sD ios S (fun k => D k || Nat.beq k i)).env d = look (S (i + 1)).env d from look_upto hS (by omega) fun k hk hw => ?_, hv d hdd] at hu
        · exact hu
        · obtain ⟨y, hy, hyd⟩ := hw
          have hxd : x.dst = some d := by rw [e1, hdd]
          simp only [Bool.or_eq_true, Nat.beq_eq]
          constructor
          · rintro (hd | rfl)
            · rcases Nat.lt_trichotomy k i with h | h | h
              · omega
              · omega
              · have := after k y h hy (by simp [needs, hxd, hyd]); rw [hd] at this; cases this
            · omega
          · intro hk'
            by_cases e' : k = i
            · exact .inr e'
            · exact .inl (before k y (by omega) hy (by simp [needs, hxd, hyd]))
      · rw [if_neg e]
        rw [agree t (by rw [hdd]; simp [e])] at hu; exact hu
  have hkeep : x.op.eff = false → heapL ios S (fun k => D k || Nat.beq k i) ios.length = heapL ios S D ios.length := by
    intro he
    have : ∀ m, heapL ios S (fun k => D k || Nat.beq k i) m = heapL ios S D m := by
      intro m
      induction m with
      | zero => rfl
      | succ m ih =>
        simp only [heapL, ih]
        by_cases e : m = i
        · subst e
          have : effAt ios m = false := by simpa [effAt, hx] using he
          simp [this]
        · have : Nat.beq m i = false := beq_ne e
          simp [this]
    exact this _
  have hefr : x.op.eff = true → x.op.hfree = false := by
    intro he
    cases hxo : x.op <;> rw [hxo] at he <;> first | rfl | (cases he)
  have hnewh : x.op.eff = true → heapL ios S (fun k => D k || Nat.beq k i) ios.length = ((S (i + 1)).heap, (S (i + 1)).nx) := by
    intro he
    refine heapL_upto hS (i + 1) (by omega) fun k hk hek => ?_
    have hy : ios[k]? = some ios[k] := List.getElem?_eq_getElem hk
    have hye : ios[k].op.eff = true := by simpa [effAt, hy] using hek
    simp only [Bool.or_eq_true, Nat.beq_eq]
    constructor
    · rintro (hd | rfl)
      · rcases Nat.lt_trichotomy k i with h | h | h
        · omega
        · omega
        · have := after k _ h hy (by simp [needs, hye, hefr he]); rw [hd] at this; cases this
      · omega
    · intro hk'
      by_cases e' : k = i
      · exact .inr e'
      · exact .inl (before k _ (by omega) hy (by simp [needs, hye, hefr he]))
  unfold wpOp
  simp only [hi]
  -- the operation does not come up
  have skip : (∃ t b, x.guard = some (t, b) ∧ (look (S i).env t = some (.c (.bool (!b))) ∨ look (S i).env t = some .und)) → S (i + 1) = (S i).set x.dst .und → Region.wanted o (yielded ops a.tmps) = false ∧ K (a.put o.dst undef) w := by
    rintro ⟨t, b, hgd, hlk⟩ hs
    rcases hg with ⟨_, hg2⟩ | ⟨j, b', oj, t', hg1, hj, ht, hg2⟩
    · rw [hg2] at hgd; cases hgd
    · rw [hg2] at hgd; cases hgd
      have htl : look (sD ios S D).env t = look (S i).env t := hlook t (by simp [Opn.uses, hg2])
      obtain ⟨g1, g2⟩ := wanted_of h hg1 hj ht
      have htn : t < n := by
        have := hdst oj (by rw [Array.mem_toList_iff]; exact Array.mem_of_getElem? hj)
        rw [ht] at this
        simpa [dstOk, Nat.blt_eq] using this
      refine ⟨?_, ?_⟩
      · rcases hlk with hlk | hlk
        · rw [g1 _ (htl.trans hlk) htn]; cases b <;> rfl
        · exact g2 (htl.trans hlk)
      · have hr := rel_und h hdo
        have he : x.op.eff = false ∨ x.op.eff = true := by cases x.op.eff <;> simp
        rcases he with he | he
        · refine hK ι _ _ (rel_conv hr ?_ ?_ (hnewl _ _ .und fun t htd => ?_))
          · rw [(set_heap _ _ _).1]; simp only [sD, hkeep he]
          · rw [(set_heap _ _ _).2]; simp only [sD, hkeep he]
          · rw [hs, e1, htd]; simp [St.set, look_cons]
        · have hh : heapL ios S D ios.length = ((S i).heap, (S i).nx) := by
            rcases hheap with ⟨h1, _⟩ | h1
            · rw [hefr he] at h1; cases h1
            · exact h1
          refine hK ι _ _ (rel_conv hr ?_ ?_ (hnewl _ _ .und fun t htd => ?_))
          · rw [(set_heap _ _ _).1]; simp only [sD, hnewh he, hh]; rw [hs, (set_heap _ _ _).1]
          · rw [(set_heap _ _ _).2]; simp only [sD, hnewh he, hh]; rw [hs, (set_heap _ _ _).2]
          · rw [hs, e1, htd]; simp [St.set, look_cons]
  rcases hS i x hx with ⟨v, hgd, xs, hxs, hcase⟩ | ⟨t, b, hgd, hlk, hs⟩
  · have hwant : Region.wanted o (yielded ops a.tmps) = true := by
      rcases hg with ⟨hg1, hg2⟩ | ⟨j, b', oj, t', hg1, hj, ht, hg2⟩
      · simp [Region.wanted, hg1]
      · rcases hgd with hgd | ⟨t, b, hgd, hlk⟩
        · rw [hg2] at hgd; cases hgd
        · rw [hg2] at hgd; cases hgd
          obtain ⟨g1, _⟩ := wanted_of h hg1 hj ht
          have htn : t' < n := by
            have := hdst oj (by rw [Array.mem_toList_iff]; exact Array.mem_of_getElem? hj)
            rw [ht] at this
            simpa [dstOk, Nat.blt_eq] using this
          rw [g1 _ ((hlook t' (by simp [Opn.uses, hg2])).trans hlk) htn]; simp
    rw [if_pos hwant]
    refine .inl ?_
    have hev : evalL (sD ios S D).env args = some xs := by
      rw [← e3, ← hxs]
      exact evalL_same fun t ht => hlook t (by unfold Opn.uses; split <;> simp [ht])
    rcases hcase with ⟨he, hp, hs⟩ | ⟨he, tt, hte, hp, hs⟩
    · have hp' : pop P io (sD ios S D).heap xs (· = v) := by
        rw [← e2]
        rcases hheap with ⟨h1, _⟩ | h1
        · exact pop_hfree h1 hp
        · have : (sD ios S D).heap = (S i).heap := by simp only [sD, h1]
          rw [this]; exact hp
      refine pop_ok h.mem hlo rfl (by rw [← e2]; exact he) (evalL_rep h hev) hp' K Q ?_
      rintro u w' hdr ⟨hb, hr⟩
      refine hK ι _ _ (rel_conv (rel_set (s' := sD ios S D) h (step_below h.mem hb) hdr rfl hdo hr) ?_ ?_ (hnewl _ _ v fun t htd => ?_))
      · rw [(set_heap _ _ _).1]; simp only [sD, hkeep he]
      · rw [(set_heap _ _ _).2]; simp only [sD, hkeep he]
      · rw [hs, e1, htd]; simp [St.set, look_cons]
    · have hh : heapL ios S D ios.length = ((S i).heap, (S i).nx) := by
        rcases hheap with ⟨h1, _⟩ | h1
        · rw [hefr he] at h1; cases h1
        · exact h1
      have hdet : x.op.det = true := List.all_eq_true.1 ((Bool.and_eq_true _ _).mp hord).1 x (List.mem_of_getElem? hx)
      have hp' := eop_env hdet hp (sD ios S D) (by simp only [sD, hh]) (by simp only [sD, hh])
      rw [e2] at hp'
      refine eop_ok h.mem hlo rfl (by rw [← e2]; exact he) (evalL_rep h hev) hp' K Q ?_
      rintro u w' hdr ⟨ι', v', s', q1, q2, q3, rfl, q5, q6⟩
      have hrel := rel_set h q2 hdr q1 hdo q3
      refine hK ι' _ _ (rel_conv hrel ?_ ?_ ?_)
      · rw [(set_heap _ _ _).1, q5]; simp only [sD, hnewh he]; rw [hs, (set_heap _ _ _).1]
      · rw [(set_heap _ _ _).2, q6]; simp only [sD, hnewh he]; rw [hs, (set_heap _ _ _).2]
      · intro t u' hu'
        have := hnewl s'.heap s'.nx v' (fun t htd => by rw [hs, e1, htd]; simp [St.set, look_cons]) t u' hu'
        obtain ⟨se, sh, sn⟩ := s'
        dsimp only at q1
        subst q1
        exact this
  · obtain ⟨h1, h2⟩ := skip ⟨t, b, hgd, hlk⟩ hs
    rw [if_neg (by rw [h1]; simp)]
    exact h2

/-! ### the whole region -/
def cnt (D : Nat → Bool) : Nat → Nat
  | 0 => 0
  | k + 1 => cnt D k + (!D k).toNat
theorem cnt_or (D : Nat → Bool) (i : Nat) (hi : D i = false) : ∀ m, (i < m → cnt (fun k => D k || Nat.beq k i) m + 1 = cnt D m) ∧ (m ≤ i → cnt (fun k => D k || Nat.beq k i) m = cnt D m)
  | 0 => ⟨fun h => by omega, fun _ => rfl⟩
  | m + 1 => by
    obtain ⟨h1, h2⟩ := cnt_or D i hi m
    refine ⟨fun h => ?_, fun h => ?_⟩
    · simp only [cnt]
      by_cases e : m = i
      · subst e; rw [h2 (Nat.le_refl _), hi, Nat.beq_refl]; rfl
      · have : Nat.beq m i = false := beq_ne e
        rw [this, Bool.or_false]
        have := h1 (by omega)
        omega
    · simp only [cnt]
      have : Nat.beq m i = false := by
        cases hb : Nat.beq m i with
        | false => rfl
        | true => have := Nat.eq_of_beq_eq_true hb; omega
      rw [this, Bool.or_false, h2 (by omega)]
theorem cnt_zero (D : Nat → Bool) : ∀ m, cnt D m = 0 → ∀ k, k < m → D k = true
  | 0, _, k, hk => by omega
  | m + 1, h, k, hk => by
    simp only [cnt] at h
    by_cases e : k = m
    · subst e
      cases hd : D k with
      | true => rfl
      | false => rw [hd] at h; simp at h
    · exact cnt_zero D m (by omega) k (by omega)
theorem cnt_all : ∀ m, cnt (fun _ => false) m = m
  | 0 => rfl
  | m + 1 => by simp [cnt, cnt_all m]

theorem wpAny_draw {q : Opts} {Q : Exit → Act → World → Prop} (hl : lowIOs P q ops ops.toList = some ios) (hord : orderB ops ios = true) (hdown : downB ops = true) (hdst : ∀ o ∈ ops.toList, dstOk n o.dst = true)
    (hS : ∀ i o, ios[i]? = some o → Goes P o (S i) (S (i + 1))) (hQ : ∀ ι a w, Rel F w0 n ι (S ios.length) a w → Q .normal a w) :
    ∀ (fuel : Nat) (listed : Array Bool) (D : Nat → Bool) (ι : Iota) (a : Act) (w : World), listed.size = ops.size → (∀ k, k < ops.size → listed[k]? = some (D k)) → (∀ k, ops.size ≤ k → D k = false) → Shut ops (D · = true) → cnt D ops.size = fuel → Rel F w0 n ι (sD ios S D) a w → wpAny P .any ops Q fuel listed a w := by
  have hlen : ios.length = ops.size := by have := (lowIOs_get hl).1; simpa using this
  have fin : ∀ (D : Nat → Bool) (ι : Iota) (a : Act) (w : World), (∀ k, k < ops.size → D k = true) → Rel F w0 n ι (sD ios S D) a w → Q .normal a w := by
    intro D ι a w hall h
    refine hQ ι a w (rel_conv h ?_ ?_ fun t v ht => ?_)
    · simp only [sD, heapL_upto hS ios.length (Nat.le_refl _) fun k hk _ => ⟨fun _ => hk, fun _ => hall k (by omega)⟩]
    · simp only [sD, heapL_upto hS ios.length (Nat.le_refl _) fun k hk _ => ⟨fun _ => hk, fun _ => hall k (by omega)⟩]
    · show look (envL ios S D ios.length) t = some v
      rw [look_upto hS (Nat.le_refl _) fun k hk _ => ⟨fun _ => hk, fun _ => hall k (by omega)⟩]
      exact ht
  have empty : ∀ (listed : Array Bool) (D : Nat → Bool), listed.size = ops.size → (∀ k, k < ops.size → listed[k]? = some (D k)) → Region.ready .any ops listed = [] → ∀ k, k < ops.size → D k = true := by
    intro listed D hs hD hr k
    induction k using Nat.strongRecOn with
    | _ k ih =>
      intro hk
      cases hd : D k with
      | true => rfl
      | false =>
        have ho : ops[k]? = some ops[k] := Array.getElem?_eq_getElem hk
        have : k ∈ Region.ready .any ops listed := by
          refine mem_ready.2 ⟨by rw [Array.getD_eq_getD_getElem?, hD k hk, hd]; rfl, ops[k], ho, fun e he hb => ?_⟩
          unfold downB at hdown
          have h1 := List.all_eq_true.1 hdown k (List.mem_range.2 hk)
          simp only [ho] at h1
          have h2 := List.all_eq_true.1 h1 e (by simpa using he)
          simp only [hb, Bool.not_true, Bool.false_or, Nat.blt_eq] at h2
          have h3 := ih e.on h2 (by omega)
          have h4 := hD e.on (by omega)
          rw [h3] at h4
          simp [h4]
        rw [hr] at this
        cases this
  intro fuel
  induction fuel with
  | zero =>
    intro listed D ι a w hs hD hbig hsh hc h
    have hall := cnt_zero D ops.size hc
    refine ⟨?_, fin D ι a w hall h⟩
    cases hr : Region.ready .any ops listed with
    | nil => rfl
    | cons i r =>
      have hi : i ∈ Region.ready .any ops listed := by rw [hr]; simp
      obtain ⟨h1, o, ho, _⟩ := mem_ready.1 hi
      have hlt := (Array.getElem?_eq_some_iff.1 ho).1
      rw [Array.getD_eq_getD_getElem?, hD i hlt, hall i hlt] at h1
      cases h1
  | succ fuel ih =>
    intro listed D ι a w hs hD hbig hsh hc h
    refine ⟨fun hr => fin D ι a w (empty listed D hs hD hr) h, fun i hi => ?_⟩
    obtain ⟨h1, o, ho, h2⟩ := mem_ready.1 hi
    have hlt := (Array.getElem?_eq_some_iff.1 ho).1
    have hni : D i = false := by rw [Array.getD_eq_getD_getElem?, hD i hlt] at h1; simpa using h1
    have hpre : ∀ e ∈ o.after.toList, Region.binds .any e = true → D e.on = true := by
      intro e he hb
      have h3 := h2 e (by simpa using he) hb
      rcases Nat.lt_or_ge e.on ops.size with h4 | h4
      · rw [Array.getD_eq_getD_getElem?, hD e.on h4] at h3; simpa using h3
      · rw [Array.getD_eq_getD_getElem?, Array.getElem?_eq_none (by omega)] at h3; simp at h3
    refine draw_step hl hord hdst hS hsh ho hni hpre h fun ι' a' w' hr => ih _ (fun k => D k || Nat.beq k i) ι' a' w' (by simp [hs]) (fun k hk => ?_) (fun k hk => ?_) ?_ ?_ hr
    · rw [Array.getElem?_setIfInBounds]
      by_cases e : i = k
      · subst e; simp [hs, hlt]
      · have : Nat.beq k i = false := beq_ne (Ne.symm e)
        rw [if_neg e, hD k hk, this, Bool.or_false]
    · have : Nat.beq k i = false := by
        cases hb : Nat.beq k i with
        | false => rfl
        | true => have := Nat.eq_of_beq_eq_true hb; omega
      rw [hbig k hk, this]; rfl
    · intro j oj hj hdj e he hb
      simp only [Bool.or_eq_true, Nat.beq_eq] at hdj ⊢
      rcases hdj with hdj | rfl
      · exact .inl (hsh j oj hj hdj e he hb)
      · rw [ho] at hj; cases hj; exact .inl (hpre e he hb)
    · have := (cnt_or D i hni ops.size).1 hlt
      omega

theorem draw_ok {q : Opts} {Q : Exit → Act → World → Prop} {K : St → Prop} (hmix : P.follows .mixedOrders = true) (hl : lowIOs P q ops ops.toList = some ios) (hord : orderB ops ios = true) (hdown : downB ops = true) (hdst : ∀ o ∈ ops.toList, dstOk n o.dst = true)
    (hQ : ∀ ι s a w, Rel F w0 n ι s a w → K s → Q .normal a w) {ι : Iota} {s : St} {a : Act} {w : World} {id : Nat} (h : Rel F w0 n ι s a w) (hv : opsV P ios K s) : (Code.region id ops true).wp P Q a w := by
  obtain ⟨S, rfl, hSK, hS⟩ := opsV_trace ios K s ((Bool.and_eq_true _ _).mp hord).1 hv
  refine wp_region_any hmix (wpAny_draw hl hord hdown hdst hS (fun ι a w hr => hQ ι _ a w hr hSK) ops.size _ (fun _ => false) ι a _ (by simp) (fun k hk => by simp [hk]) (fun _ _ => rfl) (fun i o _ h => by cases h) (cnt_all _) ?_)
  have h0 : sD ios S (fun _ => false) = S 0 := by
    have e1 : ∀ m, envL ios S (fun _ => false) m = (S 0).env := by
      intro m
      induction m with
      | zero => rfl
      | succ m ih => simp only [envL]; exact ih
    have e2 : ∀ m, heapL ios S (fun _ => false) m = ((S 0).heap, (S 0).nx) := by
      intro m
      induction m with
      | zero => rfl
      | succ m ih => simp only [heapL, Bool.false_and]; exact ih
    simp only [sD, e1, e2]
  rw [h0]
  have hst := step_below h.mem (w' := { w with drawn := w.drawn + 1 }) ⟨rfl, rfl, rfl, Nat.le_refl _, fun _ _ => rfl⟩
  exact ⟨h.size, h.defers, Nat.le_trans h.drawn (Nat.le_succ _), hst.mem, fun t v ht => hst.rep _ _ (h.env t v ht)⟩
end
end Go.Proofs.Ytfghmpfiemmbgaa
