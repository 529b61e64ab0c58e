/- A part of the proof. -/
import Derived.Test.YtjpdaapjnpdiiaaGreatE3
import Derived.Deep.Slices
import Derived.Deep.Fields
import Derived.ChangeSame
import Derived.ProofKit
import Derived.Lib.SmallJoins
import Derived.OpenShut
import Derived.ChangeOld
namespace Go.Proofs.YtjpdaapjnpdiiaaGreat
open Go.ChangeShapes Go.WideShapes Go.Deep Go.RowKit
variable [DrFlag]
inductive Sh where
 | int (k : IntKind)
 | bool
 | sl (cs : List Sh)
def shFs (P : Program) (rec : TypeId → Option (List Sh)) : Nat → List Field → Option (List Sh)
 | _, [] => some []
 | off, f :: r => match rec f.type with
   | some l => if f.offset = off ∧ P.cellsOf f.type = l.length then (match shFs P rec (off + l.length) r with
     | some m => some (l ++ m)
     | none => none) else none
   | none => none
def shOf (P : Program) : Nat → TypeId → Option (List Sh)
 | 0, _ => none
 | n + 1, t => match P.underlying t with
   | some (.int k) => some [.int k]
   | some .bool => some [.bool]
   | some (.slice e) => (match shOf P n e with
     | some l => if P.cellsOf e = l.length ∧ 0 < l.length then some [.sl l] else none
     | none => none)
   | some (.struct fs) => (match shFs P (shOf P n) 0 fs.toList with
     | some l => if P.cellsOf t = l.length then some l else none
     | none => none)
   | _ => none
inductive Fits : Sh → CV → Prop
 | int (k : IntKind) (n : Int) (h : (Lit.int k n).wf = true) : Fits (.int k) (.int k n)
 | bool (b : Bool) : Fits .bool (.bool b)
 | sl (l : List Sh) (es : List (List CV)) (hm : es.length ≤ maxLen) (h : ∀ e ∈ es, e.length = l.length) (hf : ∀ e ∈ es, ∀ (i : Nat) (s : Sh) (c : CV), l[i]? = some s → e[i]? = some c → Fits s c) : Fits (.sl l) (.sl l.length es)
def FitsL (l : List Sh) (e : List CV) : Prop := e.length = l.length ∧ ∀ (i : Nat) (s : Sh) (c : CV), l[i]? = some s → e[i]? = some c → Fits s c
omit [DrFlag] in
theorem Fits.sl_inv {l : List Sh} {c : CV} (h : Fits (.sl l) c) : ∃ es, c = .sl l.length es ∧ es.length ≤ maxLen ∧ ∀ e ∈ es, FitsL l e := by
 cases h with
 | sl _ es hm h1 h2 => exact ⟨es, rfl, hm, fun e he => ⟨h1 e he, h2 e he⟩⟩
omit [DrFlag] in
theorem Fits.int_inv {k : IntKind} {c : CV} (h : Fits (.int k) c) : ∃ n, c = .int k n ∧ (Lit.int k n).wf = true := by
 cases h with
 | int _ n h => exact ⟨n, rfl, h⟩
omit [DrFlag] in
theorem FitsL.nil_inv {e : List CV} (h : FitsL [] e) : e = [] := List.length_eq_zero_iff.1 h.1
omit [DrFlag] in
theorem FitsL.cons_inv {s : Sh} {l : List Sh} {e : List CV} (h : FitsL (s :: l) e) : ∃ c r, e = c :: r ∧ Fits s c ∧ FitsL l r := by
 cases e with
 | nil => have := h.1; simp at this
 | cons c r => exact ⟨c, r, rfl, h.2 0 s c rfl rfl, by have := h.1; simpa using this, fun i s c hs hc => h.2 (i + 1) s c (by simpa using hs) (by simpa using hc)⟩
omit [DrFlag] in
theorem Fits.rows {α : Type} {l : List Sh} {c : CV} {f : α → List CV} {p : α → Prop} (h : Fits (.sl l) c) (hd : ∀ e, FitsL l e → ∃ x, e = f x ∧ p x) : ∃ xs : List α, c = .sl l.length (xs.map f) ∧ xs.length ≤ maxLen ∧ ∀ x ∈ xs, p x := by
 obtain ⟨es, rfl, hm, he⟩ := h.sl_inv
 have key : ∀ es : List (List CV), (∀ e ∈ es, FitsL l e) → ∃ xs : List α, es = xs.map f ∧ ∀ x ∈ xs, p x := by
   intro es
   induction es with
   | nil => intro _; exact ⟨[], rfl, by simp⟩
   | cons e r ih =>
     intro he
     obtain ⟨x, h1, h2⟩ := hd e (he e (by simp))
     obtain ⟨xs, h3, h4⟩ := ih fun e' h' => he e' (by simp [h'])
     refine ⟨x :: xs, by simp [h1, h3], fun y hy => ?_⟩
     rcases List.mem_cons.1 hy with rfl | hy
     · exact h2
     · exact h4 y hy
 obtain ⟨xs, rfl, hp⟩ := key es he
 exact ⟨xs, rfl, by simpa using hm, hp⟩
omit [DrFlag] in
theorem flatq {α : Type} {k : Nat} (hk0 : 0 < k) : ∀ {L : List (List α)}, (∀ e ∈ L, e.length = k) → ∀ q : Nat, L.flatten[q]? = (L[q / k]?).bind (fun e => e[q % k]?)
 | [], _, q => by simp
 | e :: r, hk, q => by
   have he := hk e (by simp)
   rw [List.flatten_cons]
   by_cases hq : q < k
   · rw [List.getElem?_append_left (by omega), Nat.div_eq_of_lt hq, Nat.mod_eq_of_lt hq]; rfl
   · rw [List.getElem?_append_right (by omega), flatq hk0 (fun e' h' => hk e' (by simp [h'])), he]
     have h1 : q / k = (q - k) / k + 1 := by
       rw [← Nat.add_div_right _ hk0]; congr 1; omega
     have h2 : q % k = (q - k) % k := Nat.mod_eq_sub_mod (by omega)
     rw [h1, h2]; rfl
omit [DrFlag] in
theorem spot_of {w : World} {a : Addr} {v : Value} (h : w.cell? a = some v) : a.spot = none ∧ a.block < w.heap.size := by
 unfold World.cell? at h
 split at h
 · rename_i hb
   constructor
   · cases hs : a.spot with
     | none => rfl
     | some _ => simp [hs] at h
   · rcases Nat.lt_or_ge a.block w.heap.size with h' | h'
     · exact h'
     · rw [Array.getElem?_eq_none h'] at hb; cases hb
 · cases h
section
variable {H : Type} {enc : TypeId × Value → H} {P : Program} {w : World} {base : Nat} {spare : Nat → Bool} {held : Bool}
def Opened (w : World) (ss : List Sh) (cs : List Value) : Prop :=
 cs.length = ss.length ∧ ∃ e : List CV, FitsL ss e ∧ ∀ (i : Nat) (c : CV) (v : Value), e[i]? = some c → cs[i]? = some v → RepC w (fun _ => False) c v
omit [DrFlag] in
theorem Opened.nil : Opened w [] [] := ⟨rfl, [], ⟨rfl, fun i s c h => by simp at h⟩, fun i c v h => by simp at h⟩
omit [DrFlag] in
theorem Opened.one {s : Sh} {c : CV} {v : Value} (h1 : Fits s c) (h2 : RepC w (fun _ => False) c v) : Opened w [s] [v] := by
 refine ⟨rfl, [c], ⟨rfl, fun i s' c' hs hc => ?_⟩, fun i c' v' hc hv => ?_⟩
 · cases i with
   | zero => simp at hs hc; subst hs; subst hc; exact h1
   | succ i => simp at hs
 · cases i with
   | zero => simp at hv hc; subst hv; subst hc; exact h2
   | succ i => simp at hc
omit [DrFlag] in
theorem Opened.append {l m : List Sh} {a b : List Value} (h1 : Opened w l a) (h2 : Opened w m b) : Opened w (l ++ m) (a ++ b) := by
 obtain ⟨l1, e1, ⟨f1, g1⟩, r1⟩ := h1
 obtain ⟨l2, e2, ⟨f2, g2⟩, r2⟩ := h2
 refine ⟨by simp [l1, l2], e1 ++ e2, ⟨by simp [f1, f2], fun i s c hs hc => ?_⟩, fun i c v hc hv => ?_⟩
 · by_cases hi : i < l.length
   · rw [List.getElem?_append_left hi] at hs
     rw [List.getElem?_append_left (by omega)] at hc
     exact g1 i s c hs hc
   · rw [List.getElem?_append_right (by omega)] at hs hc
     rw [f1] at hc
     exact g2 _ s c hs hc
 · by_cases hi : i < e1.length
   · rw [List.getElem?_append_left hi] at hc
     rw [List.getElem?_append_left (by omega)] at hv
     exact r1 i c v hc hv
   · rw [List.getElem?_append_right (by omega)] at hc hv
     rw [l1, ← f1] at hv
     exact r2 _ c v hc hv
omit [DrFlag] in
theorem open_fields {n fuel : Nat} {cs : List Value} (ih : ∀ {t : TypeId} {ss : List Sh}, shOf P n t = some ss → ∀ {fuel : Nat} {cs : List Value} {x : DataW H × List MemPlace}, DataW.trod enc P w base spare held fuel t cs = some x → Opened w ss cs) :
   ∀ (fs : List Field) (off : Nat) (ss : List Sh), shFs P (shOf P n) off fs = some ss → (∀ f ∈ fs, ∃ y, DataW.trod enc P w base spare held fuel f.type ((cs.drop f.offset).take (P.cellsOf f.type)) = some y) → cs.length = off + ss.length → Opened w ss (cs.drop off)
 | [], off, ss, hs, _, hl => by
   simp [shFs] at hs
   subst hs
   rw [List.drop_eq_nil_of_le (by simp at hl; omega)]
   exact Opened.nil
 | f :: r, off, ss, hs, hf, hl => by
   simp only [shFs] at hs
   split at hs
   · rename_i l hlr
     split at hs
     · rename_i hc
       split at hs
       · rename_i m hm
         cases hs
         obtain ⟨y, hy⟩ := hf f (by simp)
         have h1 := ih hlr hy
         rw [hc.1, hc.2] at h1
         have h2 := open_fields ih r (off + l.length) m hm (fun f' h' => hf f' (by simp [h'])) (by simp at hl; omega)
         have h3 := h1.append h2
         have e : (cs.drop off).take l.length ++ cs.drop (off + l.length) = cs.drop off := by
           rw [← List.drop_drop, List.take_append_drop]
         rwa [e] at h3
       · cases hs
     · cases hs
   · cases hs
omit [DrFlag] in
theorem open_cells : ∀ (n : Nat) {t : TypeId} {ss : List Sh}, shOf P n t = some ss → ∀ {fuel : Nat} {cs : List Value} {x : DataW H × List MemPlace}, DataW.trod enc P w base spare held fuel t cs = some x → Opened w ss cs
 | 0, t, ss, hs, fuel, cs, x, h => by simp [shOf] at hs
 | n + 1, t, ss, hs, fuel, cs, x, h => by
   have ih := fun {t : TypeId} {ss : List Sh} (hs : shOf P n t = some ss) {fuel : Nat} {cs : List Value} {x : DataW H × List MemPlace} (h : DataW.trod enc P w base spare held fuel t cs = some x) => open_cells n hs h
   simp only [shOf] at hs
   split at hs
   · rename_i k hu
     cases hs
     obtain ⟨m, rfl, _, hw⟩ := DataW.trod_int hu h
     exact Opened.one (.int k m hw) (.int k m)
   · rename_i hu
     cases hs
     obtain ⟨b, rfl, _⟩ := DataW.trod_bool hu h
     exact Opened.one (.bool b) (.bool b)
   · rename_i e hu
     split at hs
     · rename_i l hl
       split at hs
       · rename_i hc
         obtain ⟨hc, hk0⟩ := hc
         cases hs
         rcases open_slice hu h with ⟨rfl, _⟩ | ⟨a, len, cap, m, n', D, Pl, rfl, _, hle, hcap, hm, _, hi⟩
         · exact Opened.one (.sl l [] (by simp [maxLen]) (by simp) (by simp)) (.sl l.length [] none 0 [] (by simp) (by simp) (by simp) (by simp) (by simp) (by simp))
         · have hlm : len ≤ m := by rw [hm]; split <;> omega
           rw [hc] at hi
           have hex : ∀ i, i < len → ∃ p : List Value × List CV, p.1.length = l.length ∧ FitsL l p.2 ∧ (∀ j, j < l.length → w.cell? (a.add (i * l.length + j)) = p.1[j]?) ∧ ∀ (j : Nat) (c : CV) (v : Value), p.2[j]? = some c → p.1[j]? = some v → RepC w (fun _ => False) c v := by
             intro i hil
             obtain ⟨cs', hcs, htr⟩ := hi i (by omega)
             obtain ⟨_, _, hat⟩ := World.cells?_some hcs
             obtain ⟨g1, e', g2, g3⟩ := ih hl htr
             exact ⟨(cs', e'), g1, g2, fun j hj => by rw [← Go.Deep.add_add]; exact hat j hj, g3⟩
           let f : Nat → List Value × List CV := fun i => if h : i < len then Classical.choose (hex i h) else ([], [])
           have hf : ∀ i, i < len → (f i).1.length = l.length ∧ FitsL l (f i).2 ∧ (∀ j, j < l.length → w.cell? (a.add (i * l.length + j)) = (f i).1[j]?) ∧ ∀ (j : Nat) (c : CV) (v : Value), (f i).2[j]? = some c → (f i).1[j]? = some v → RepC w (fun _ => False) c v := by
             intro i hil
             have : f i = Classical.choose (hex i hil) := by simp [f, hil]
             rw [this]
             exact Classical.choose_spec (hex i hil)
           have hE : ∀ e ∈ (List.range len).map (fun i => (f i).2), FitsL l e := by
             intro e he
             obtain ⟨i, hi', rfl⟩ := List.mem_map.1 he
             exact (hf i (by simpa using hi')).2.1
           have hV : ∀ e ∈ (List.range len).map (fun i => (f i).1), e.length = l.length := by
             intro e he
             obtain ⟨i, hi', rfl⟩ := List.mem_map.1 he
             exact (hf i (by simpa using hi')).1
           have hmx : len ≤ maxLen := by omega
           have hrep : RepC w (fun _ => False) (.sl l.length ((List.range len).map fun i => (f i).2)) (.slice (some a) ((List.range len).map fun i => (f i).2).length cap) := by
             refine .sl l.length _ (some a) cap ((List.range len).map fun i => (f i).1).flatten (fun e he => (hE e he).1) (by simpa using hle) (by unfold maxLen at hcap; omega) ?_ (fun h0 => ?_) (fun i c v hc' hv' => ?_)
             · have : ∀ L : List (List Value), (∀ e ∈ L, e.length = l.length) → L.flatten.length = L.length * l.length := by
                 intro L
                 induction L with
                 | nil => simp
                 | cons e r ih2 => intro hh; rw [List.flatten_cons, List.length_append, ih2 (fun e' h' => hh e' (by simp [h'])), hh e (by simp), List.length_cons, Nat.add_mul]; omega
               rw [this _ hV]; simp
             · have hn : 0 < len := by simpa using h0
               have hc0 := (hf 0 hn).2.2.1 0 hk0
               have hl0 := (hf 0 hn).1
               rw [List.getElem?_eq_getElem (by omega)] at hc0
               obtain ⟨hsp, hbl⟩ := spot_of hc0
               obtain ⟨b, off, sp⟩ := a
               have hs0 : sp = none := by simpa [Addr.add] using hsp
               subst hs0
               have ea : ∀ q, (⟨b, off, none⟩ : Addr).add q = ⟨b, off + q, none⟩ := by intro q; unfold Addr.add; split <;> simp_all
               refine ⟨b, off, rfl, by simpa [Addr.add] using hbl, fun h => h, fun j u hu => ?_⟩
               rw [flatq hk0 hV, List.getElem?_map] at hu
               by_cases hj : j / l.length < len
               · rw [List.getElem?_range hj] at hu
                 have := (hf _ hj).2.2.1 (j % l.length) (Nat.mod_lt _ hk0)
                 rw [ea] at this
                 have e2 : j / l.length * l.length + j % l.length = j := by rw [Nat.mul_comm]; exact Nat.div_add_mod _ _
                 rw [e2] at this
                 rw [this]; exact hu
               · rw [List.getElem?_eq_none (by simpa using hj)] at hu; cases hu
             · rw [flatq hk0 (fun e he => (hE e he).1), List.getElem?_map] at hc'
               rw [flatq hk0 hV, List.getElem?_map] at hv'
               by_cases hj : i / l.length < len
               · rw [List.getElem?_range hj] at hc' hv'
                 exact (hf _ hj).2.2.2 _ c v hc' hv'
               · rw [List.getElem?_eq_none (by simpa using hj)] at hc'; cases hc'
           have hl2 : ((List.range len).map fun i => (f i).2).length = len := by simp
           rw [hl2] at hrep
           exact Opened.one (.sl l _ (by simpa using hmx) (fun e he => (hE e he).1) (fun e he => (hE e he).2)) hrep
       · cases hs
     · cases hs
   · rename_i fs hu
     split at hs
     · rename_i l hl
       split at hs
       · rename_i hc
         cases hs
         obtain ⟨ys, n', _, _, hlen, hyl, hfl⟩ := DataW.trod_struct hu h
         have := open_fields (fuel := n') (cs := cs) ih fs.toList 0 ss hl (fun f hf => by
           obtain ⟨j, hj⟩ := List.getElem?_of_mem hf
           have hj' : fs[j]? = some f := by simpa using hj
           have hlt : j < ys.length := by rw [hyl]; exact (Array.getElem?_eq_some_iff.1 hj').1
           exact ⟨ys[j], (hfl j f hj').trans (List.getElem?_eq_getElem hlt)⟩) (by omega)
         simpa using this
       · cases hs
     · cases hs
   · cases hs
omit [DrFlag] in
theorem open_sl {r : Reach} {b0 n : Nat} {t e : TypeId} {s : Sh} {v : Value} {d : DataW H} {p : List MemPlace} (hu : P.underlying t = some (.slice e)) (hs : shOf P n t = some [s]) (hv : Value.okWide P w r b0 t v) (h : DataW.Trod enc P w base spare held t v d p) :
   ∃ c, Fits s c ∧ Rep w (fun _ => False) (fun _ => none) [] 0 (.c c) v := by
 obtain ⟨a, len, cap, rfl⟩ := okWide_slice hu hv
 obtain ⟨fuel, hf⟩ := h
 obtain ⟨_, e, hfit, hrep⟩ := open_cells n hs hf
 obtain ⟨c, r', rfl, h1, h2⟩ := hfit.cons_inv
 exact ⟨c, h1, .c _ _ (hrep 0 c _ rfl rfl)⟩
omit [DrFlag] in
theorem open_st {r : Reach} {b0 n : Nat} {t : TypeId} {fs : Array Field} {ss : List Sh} {v : Value} {d : DataW H} {p : List MemPlace} (hu : P.underlying t = some (.struct fs)) (hs : shOf P n t = some ss) (hv : Value.okWide P w r b0 t v) (h : DataW.Trod enc P w base spare held t v d p) :
   ∃ cs, FitsL ss cs ∧ Rep w (fun _ => False) (fun _ => none) [] 0 (.agg (cs.map .c)) v := by
 obtain ⟨cs, rfl, hsz⟩ := okWide_struct hu hv
 obtain ⟨fuel, hf⟩ := h
 obtain ⟨hl, e, hfit, hrep⟩ := open_cells n hs hf
 obtain ⟨l⟩ := cs
 refine ⟨e, hfit, .agg _ l (by have := hfit.1; simp [Value.cells] at hl; simp; omega) (fun s hs => ?_) fun i s v hs hv => ?_⟩
 · obtain ⟨c, _, rfl⟩ := List.mem_map.1 hs; rfl
 · rw [List.getElem?_map] at hs
   cases hc : e[i]? with
   | none => rw [hc] at hs; cases hs
   | some c => rw [hc] at hs; cases hs; exact .c _ _ (hrep i c v hc (by simpa [Value.cells] using hv))
theorem law_calls {f : Nat} {S : Spec} (h : Holds P f S) (x : S.X) (hp : S.pre x) (hr : S.res x = .c (.bool true)) {vs : List Value} (ha : RepList w (fun _ => False) (fun _ => none) [] 0 (S.args x) vs) :
   Calls P f vs.toArray w fun e w' => e = .returned (.bool true) ∧ Below w.heap.size w w' := by
 refine Calls.mono (h x (fun _ => False) w vs hp (fun b hb => hb.elim) ha) ?_
 rintro e w' ⟨v, ι, rfl, hb, _, hv, _⟩
 rw [hr] at hv
 refine ⟨?_, hb⟩
 cases hv with
 | c _ _ h => cases h; rfl
end
end Go.Proofs.YtjpdaapjnpdiiaaGreat
