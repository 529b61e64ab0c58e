/- Maps of the call's own: what their operations do. No program in sight. -/
import Derived.Test.YtfghmpfiemmbgaaB3
namespace Go.Proofs.Ytfghmpfiemmbgaa
open Go.RowKit

section
variable {P : Program} {w : World}
theorem mkey_int {em : Bool} {t : TypeId} (hu : P.underlying t = some (.int .i64)) (n : Nat) (x : Int) (w : World) : (Instr.checkKey em (n + 1) t (.int .i64 x)).run P w = .ok () w := by
  simp only [Instr.checkKey, Sem.run_bind, run_underlying hu, Result.andThen_ok]
  rfl
theorem keyFs_run {em : Bool} {n : Nat} {cs : List Int} : ∀ {fs : List Field} {o : Nat}, keyFs P o fs = true → o + fs.length ≤ cs.length →
    (forIn fs PUnit.unit (fun (f : Field) (_ : PUnit) => (if f.name ≠ "_" then (do
        let v ← part f.type (cs.map (Value.int .i64)).toArray f.offset
        Instr.checkKey em (n + 1) f.type v
        pure (ForInStep.yield PUnit.unit)) else pure (ForInStep.yield PUnit.unit) : Sem (ForInStep PUnit)))).run P w = .ok PUnit.unit w
  | [], o, h, hl => by simp
  | f :: r, o, h, hl => by
    simp only [keyFs, Bool.and_eq_true, decide_eq_true_eq] at h
    obtain ⟨h1, h2, h3, h4⟩ := h
    split at h1
    · rename_i hu
      have h3 := Nat.eq_of_beq_eq_true h3
      have ih := keyFs_run (em := em) (n := n) (cs := cs) h4 (by simp at hl ⊢; omega)
      simp at hl
      have hlt : o < cs.length := by omega
      have hp : (part f.type (cs.map (Value.int .i64)).toArray f.offset).run P w = .ok (.int .i64 cs[o]) w := by
        unfold part
        simp only [Sem.run_bind, run_aggT hu, Result.andThen_ok, aggD, h3]
        simp [hlt]
      have hc : (Instr.checkKey em (n + 1) f.type (.int .i64 cs[o])).run P w = .ok () w := by
        exact mkey_int hu n _ w
      rw [List.forIn_cons]
      simp only [Sem.run_bind, if_pos h2, hp, Result.andThen_ok, hc, Sem.run_pure]
      exact ih
    · cases h1

theorem mkey_check {K : TypeId} {kn : Nat} {k : List Int} (h : keyT P K = some kn) (hk : keyLen kn k = true) (em : Bool) (w : World) : (Instr.checkKey em 10000 K (encKey kn k)).run P w = .ok () w := by
  unfold keyT at h
  split at h
  · rename_i hu
    cases h
    have hk := Nat.eq_of_beq_eq_true hk
    obtain ⟨n, rfl⟩ := List.length_eq_one_iff.1 hk
    exact mkey_int hu 9999 n w
  · rename_i fs hu
    split at h
    · rename_i l hl
      split at h
      · rename_i hc
        cases h
        simp only [Bool.and_eq_true] at hc
        obtain ⟨h1, h2, h3, h4, h5⟩ := hc
        have h0 : 0 < fs.size := by simpa [Nat.blt_eq] using h3
        obtain ⟨m, hm⟩ : ∃ m, fs.size = m + 1 := ⟨fs.size - 1, by omega⟩
        rw [hm] at hk ⊢
        have hk := Nat.eq_of_beq_eq_true hk
        show (Instr.checkKey em (9998 + 1 + 1) K (.agg (k.map (Value.int .i64)).toArray)).run P w = _
        have := keyFs_run (P := P) (em := em) (n := 9998) (cs := k) (w := w) h4 (by simp; omega)
        rw [Instr.checkKey]
        simp only [Sem.run_bind, run_underlying hu, Result.andThen_ok]
        rw [← Array.forIn_toList, this]
        rfl
      · cases h
    · cases h
  · cases h

theorem eqB_ints : ∀ {l : List Bool} {a b : List Int}, l.all (fun b => !b) = true → a.length = l.length → b.length = l.length → eqB l (a.map (Value.int .i64)) (b.map (Value.int .i64)) = some (decide (a = b))
  | [], [], [], _, _, _ => rfl
  | false :: l, x :: a, y :: b, h, h1, h2 => by
    simp at h h1 h2
    have := eqB_ints (l := l) (a := a) (b := b) (by simpa using h) h1 h2
    simp only [List.map_cons, eqB, if_true, this, Option.map_some]
    congr 1
    by_cases e : x = y <;> simp [e]
  | true :: l, _, _, h, _, _ => by simp at h
  | false :: l, [], _, _, h1, _ => by simp at h1
  | false :: l, _ :: _, [], _, _, h2 => by simp at h2
  | [], _ :: _, _, _, h1, _ => by simp at h1
  | [], [], _ :: _, _, _, h2 => by simp at h2

theorem mkey_eq {K : TypeId} {kn : Nat} {a b : List Int} (h : keyT P K = some kn) (ha : keyLen kn a = true) (hb : keyLen kn b = true) (w : World) : (Op.equal K (encKey kn a) (encKey kn b)).run P w = .ok (decide (a = b)) w := by
  unfold keyT at h
  split at h
  · rename_i hu
    cases h
    obtain ⟨x, rfl⟩ := List.length_eq_one_iff.1 (Nat.eq_of_beq_eq_true ha)
    obtain ⟨y, rfl⟩ := List.length_eq_one_iff.1 (Nat.eq_of_beq_eq_true hb)
    show (Op.equalIn _ K (.int .i64 x) (.int .i64 y)).run P w = _
    rw [run_eqT (P := P) 1 K [false] (by simp [eqT, hu]) Op.maxDepth [.int .i64 x] [.int .i64 y] (decide ([x] = [y])) _ _ w (by decide) (eqB_ints (l := [false]) (a := [x]) (b := [y]) rfl rfl rfl) (.inr ⟨by rw [hu]; rfl, rfl, rfl⟩)]
  · rename_i fs hu
    split at h
    · rename_i l hl
      split at h
      · rename_i hc
        cases h
        simp only [Bool.and_eq_true] at hc
        obtain ⟨h1, h2, h3, h4, h5⟩ := hc
        have h0 : 0 < fs.size := by simpa [Nat.blt_eq] using h3
        have h2 := Nat.eq_of_beq_eq_true h2
        obtain ⟨m, hm⟩ : ∃ m, fs.size = m + 1 := ⟨fs.size - 1, by omega⟩
        rw [hm] at ha hb ⊢
        have ha := Nat.eq_of_beq_eq_true ha
        have hb := Nat.eq_of_beq_eq_true hb
        exact run_eqT 8 K l hl Op.maxDepth _ _ _ _ _ w (by decide) (eqB_ints h1 (by omega) (by omega)) (.inl ⟨by rw [hu]; rfl, rfl, rfl⟩)
      · cases h
    · cases h
  · cases h

def findI (k : List Int) : Nat → List (List Int × List CV) → Option (Nat × List CV)
  | _, [] => none
  | i, p :: r => if k = p.1 then some (i, p.2) else findI k (i + 1) r
theorem findI_KV {k : List Int} : ∀ {kv : List (List Int × List CV)} {i : Nat}, findKV k kv = (findI k i kv).map (·.2)
  | [], _ => rfl
  | p :: r, i => by
    rw [findKV, findI]
    by_cases h : k = p.1
    · simp [h]
    · simp only [if_neg h]; exact findI_KV
theorem findKV_mem {k : List Int} {l : List CV} : ∀ {kv : List (List Int × List CV)}, findKV k kv = some l → ∃ p ∈ kv, p.2 = l
  | [], h => by cases h
  | p :: r, h => by
    rw [findKV] at h
    split at h
    · cases h; exact ⟨p, by simp, rfl⟩
    · obtain ⟨q, hq, e⟩ := findKV_mem h
      exact ⟨q, by simp [hq], e⟩
theorem run_asking {K : TypeId} {kn : Nat} {k : List Int} {ag : Bool} (h : keyT P K = some kn) (hk : keyLen kn k = true) (w : World) : ∀ (es : List MapEntry) (kv : List (List Int × List CV)) (i : Nat), es.map (fun e => (e.key, e.val)) = kv.map (fun p => (encKey kn p.1, encCell ag p.2)) → (∀ p ∈ kv, keyLen kn p.1 = true) →
    (Instr.findAsking K (encKey kn k) es i).run P w = .ok ((findI k i kv).map fun q => (q.1, encCell ag q.2)) w
  | [], [], i, _, _ => rfl
  | [], p :: r, i, he, _ => by simp at he
  | e :: es, [], i, he, _ => by simp at he
  | e :: es, p :: r, i, he, hl => by
    simp only [List.map_cons, List.cons.injEq, Prod.mk.injEq] at he
    obtain ⟨⟨h1, h2⟩, h3⟩ := he
    simp only [Instr.findAsking, h1, Sem.run_bind, mkey_eq h hk (hl p (by simp)), Result.andThen_ok, findI]
    by_cases e : k = p.1
    · simp [e, h2]
    · simp [e, run_asking h hk w es r (i + 1) h3 (fun p hp => hl p (by simp [hp]))]
theorem mnow_int {k : Int} {ag : Bool} {kd : IntKind} : ∀ (es : List MapEntry) (kv : List (List Int × List CV)) (i : Nat), es.map (fun e => (e.key, e.val)) = kv.map (fun p => (encKey 0 p.1, encCell ag p.2)) → (∀ p ∈ kv, keyLen 0 p.1 = true) →
    Instr.findNow (.int kd) (.int .i64 k) es i = some ((findI [k] i kv).map fun q => (q.1, encCell ag q.2))
  | [], [], i, _, _ => rfl
  | [], p :: r, i, he, _ => by simp at he
  | e :: es, [], i, he, _ => by simp at he
  | e :: es, p :: r, i, he, hl => by
    simp only [List.map_cons, List.cons.injEq, Prod.mk.injEq] at he
    obtain ⟨⟨h1, h2⟩, h3⟩ := he
    have hp := hl p (by simp)
    obtain ⟨p1, p2⟩ := p
    obtain ⟨y, rfl⟩ := List.length_eq_one_iff.1 (Nat.eq_of_beq_eq_true hp)
    have hs : Instr.sameNow (.int kd) (.int .i64 k) e.key = some (k == y) := by rw [h1]; simp [encKey, Instr.sameNow]
    have ih := mnow_int (k := k) (ag := ag) (kd := kd) es r (i + 1) h3 (fun p hp => hl p (by simp [hp]))
    simp only [Instr.findNow, hs, findI]
    by_cases e : k = y
    · subst e; simp [h2]
    · have e' : (k == y) = false := by simpa using e
      rw [e']; simp [e, ih]
theorem mrun_find {K : TypeId} {kn : Nat} {k : List Int} {ag : Bool} (h : keyT P K = some kn) (hk : keyLen kn k = true) (w : World) (es : List MapEntry) (kv : List (List Int × List CV)) (he : es.map (fun e => (e.key, e.val)) = kv.map (fun p => (encKey kn p.1, encCell ag p.2))) (hl : ∀ p ∈ kv, keyLen kn p.1 = true) :
    (Instr.findKey K (encKey kn k) es).run P w = .ok ((findI k 0 kv).map fun q => (q.1, encCell ag q.2)) w := by
  have hask := run_asking (ag := ag) h hk w es kv 0 he hl
  unfold Instr.findKey
  unfold keyT at h
  split at h
  · rename_i hu
    cases h
    obtain ⟨n, rfl⟩ := List.length_eq_one_iff.1 (Nat.eq_of_beq_eq_true hk)
    simp only [Sem.run_bind, run_underlying hu, Result.andThen_ok]
    rw [show encKey 0 [n] = .int .i64 n from rfl, mnow_int es kv 0 he hl]
    rfl
  · rename_i fs hu
    split at h
    · split at h
      · rename_i hc
        cases h
        simp only [Sem.run_bind, run_underlying hu, Result.andThen_ok]
        cases es with
        | nil =>
          cases kv with
          | nil => simp [Instr.findNow, findI]
          | cons p r => simp at he
        | cons e r =>
          have hn : Instr.findNow (.struct fs) (encKey fs.size k) (e :: r) 0 = none := by simp [Instr.findNow, Instr.sameNow]
          rw [hn]
          exact hask
      · cases h
    · cases h
  · cases h
theorem scalar_rep {w : World} {own : Nat → Prop} {c : CV} {v : Value} (hs : c.scalar = true) : RepC w own c v ↔ v = c.val := by
  cases c <;> first | (cases hs; done) | skip
  · exact ⟨fun h => by cases h; rfl, fun h => by rw [h]; exact .int _ _⟩
  · exact ⟨fun h => by cases h; rfl, fun h => by rw [h]; exact .bool _⟩


theorem encKey_same {kn : Nat} (k : List Int) (hk : keyLen kn k = true) : Instr.sameBits 10000 (encKey kn k) (encKey kn k) = true := by
  cases kn with
  | zero =>
    obtain ⟨n, rfl⟩ := List.length_eq_one_iff.1 (Nat.eq_of_beq_eq_true hk)
    simp [encKey, Instr.sameBits]
  | succ m =>
    show Instr.sameBits (9999 + 1) (.agg (k.map (Value.int .i64)).toArray) (.agg (k.map (Value.int .i64)).toArray) = true
    have hz : ∀ (l : List Int) (n : Nat), ((l.map (Value.int .i64)).zip (l.map (Value.int .i64))).all (fun (x, y) => Instr.sameBits n x y) = true := by
      intro l n
      induction l with
      | nil => rfl
      | cons x r ih => simp only [List.map_cons, List.zip_cons_cons, List.all_cons, ih, Bool.and_true]; simp [Instr.sameBits]
    rw [Instr.sameBits]
    simp only [beq_self_eq_true, Bool.true_and]
    exact hz k 9999

theorem const_val {v : Value} (h : (constC v).scalar = true) : (constC v).val = v := by
  unfold constC at h ⊢
  split at h <;> first | rfl | cases h

theorem findI_none {k : List Int} {v : List CV} : ∀ {kv : List (List Int × List CV)} {i : Nat}, findI k i kv = none → setKV k v kv = kv ++ [(k, v)]
  | [], _, _ => rfl
  | p :: r, i, h => by
    rw [findI] at h
    split at h
    · cases h
    · rename_i e
      rw [setKV, if_neg e, findI_none h]; rfl
theorem findI_some {k : List Int} {v : List CV} : ∀ {kv : List (List Int × List CV)} {i j : Nat} {l : List CV}, findI k i kv = some (j, l) → ∃ m, j = i + m ∧ kv[m]? = some (k, l) ∧ setKV k v kv = kv.set m (k, v)
  | [], _, _, _, h => by cases h
  | p :: r, i, j, l, h => by
    rw [findI] at h
    split at h
    · rename_i e
      cases h
      exact ⟨0, rfl, by simp [e], by rw [setKV, if_pos e]; simp [e]⟩
    · rename_i e
      obtain ⟨m, h1, h2, h3⟩ := findI_some (v := v) h
      exact ⟨m + 1, by omega, by simpa using h2, by rw [setKV, if_neg e, h3]; rfl⟩
theorem setKV_all {k : List Int} {v : List CV} {p : List Int × List CV → Prop} (hv : p (k, v)) : ∀ {kv : List (List Int × List CV)}, (∀ x ∈ kv, p x) → ∀ x ∈ setKV k v kv, p x
  | [], _ => by intro x hx; simp [setKV] at hx; subst hx; exact hv
  | q :: r, h => by
    intro x hx
    rw [setKV] at hx
    split at hx
    · rename_i e
      rcases List.mem_cons.1 hx with rfl | hx
      · rw [← e]; exact hv
      · exact h x (by simp [hx])
    · rcases List.mem_cons.1 hx with rfl | hx
      · exact h _ (by simp)
      · exact setKV_all hv (fun y hy => h y (by simp [hy])) x hx

theorem mapT_spec {T : TypeId} {kn : Nat} {ag : Bool} (h : mapT P T = some (kn, ag)) : ∃ K E u, P.underlying T = some (.map K E) ∧ keyT P K = some kn ∧ P.underlying E = some u ∧ ag = aggD u := by
  unfold mapT at h
  split at h
  · rename_i K E hT
    split at h
    · rename_i kn' u h1 h2
      cases h
      exact ⟨K, E, u, hT, h1, h2, rfl⟩
    · cases h
  · cases h
theorem elemZ_spec {T K E : TypeId} {u : TypeDesc} {z : List CV} (h : elemZ P T = some z) (hT : P.underlying T = some (.map K E)) (hu : P.underlying E = some u) (hs : z.all CV.scalar = true) (w : World) : (zeroValue E).run P w = .ok (encCell (aggD u) z) w := by
  unfold elemZ at h
  rw [hT] at h
  dsimp only at h
  rw [hu] at h
  split at h
  · rename_i i u' hi e
    cases e
    have key : ∀ zv, i.zero = some zv → (zeroValue E).run P w = .ok zv w := fun zv hz => by simp [zeroValue, typeInfo, hi, hz]
    split at h
    · rename_i cs hz
      split at h
      · rename_i ha
        cases h
        rw [key _ hz, ha]
        congr 1
        show Value.agg cs = .agg ((cs.toList.map constC).map CV.val).toArray
        congr 1
        rw [List.map_map]
        have : cs.toList.map (CV.val ∘ constC) = cs.toList := by
          conv => rhs; rw [← List.map_id cs.toList]
          refine List.map_congr_left fun v hv => const_val (List.all_eq_true.1 hs _ (List.mem_map.2 ⟨v, hv, rfl⟩))
        rw [this]
      · cases h
    · rename_i v _ hz
      split at h
      · cases h
      · rename_i ha
        cases h
        rw [key _ hz]
        have ha : aggD u = false := by simpa using ha
        rw [ha]
        congr 1
        simp at hs
        exact (const_val hs).symm
    · cases h
  · cases h

theorem mrun_lookup {T : TypeId} {kn : Nat} {ag ok : Bool} {z : List CV} {k : List Int} {b ck : Nat} {arr : Array MapEntry} {kv : List (List Int × List CV)} (hT : mapT P T = some (kn, ag)) (hz : elemZ P T = some z) (hs : z.all CV.scalar = true) (hb : w.heap[b]? = some (.map arr ck))
    (he : arr.toList.map (fun e => (e.key, e.val)) = kv.map (fun p => (encKey kn p.1, encCell ag p.2))) (hl : ∀ p ∈ kv, keyLen kn p.1 = true) (hk : keyLen kn k = true) :
    (Instr.lookup T (.map (some b)) (encKey kn k) ok).run P w = .ok (if ok then .tuple #[encCell ag ((findKV k kv).getD z), .bool (findKV k kv).isSome] else encCell ag ((findKV k kv).getD z)) w := by
  obtain ⟨K, E, u, h1, h2, h3, rfl⟩ := mapT_spec hT
  have hg : (getObj b).run P w = .ok (.map arr ck) w := by unfold getObj; simp only [Sem.run, hb]
  unfold Instr.lookup
  simp only [Sem.run_bind, run_underlying h1, Result.andThen_ok, hg, Sem.run_pure, mkey_check h2 hk, mrun_find h2 hk w arr.toList kv he hl]
  rw [findI_KV (i := 0)]
  cases findI k 0 kv with
  | none => cases ok <;> simp [elemZ_spec hz h1 h3 hs]
  | some q => cases ok <;> simp

theorem mrun_update {T : TypeId} {kn : Nat} {ag : Bool} {k : List Int} {l : List CV} {b ck : Nat} {arr : Array MapEntry} {kv : List (List Int × List CV)} (hT : mapT P T = some (kn, ag)) (hb : w.heap[b]? = some (.map arr ck))
    (he : arr.toList.map (fun e => (e.key, e.val)) = kv.map (fun p => (encKey kn p.1, encCell ag p.2))) (hl : ∀ p ∈ kv, keyLen kn p.1 = true) (hk : keyLen kn k = true) :
    ∃ w' arr' ck', (Instr.mapUpdate T (.map (some b)) (encKey kn k) (encCell ag l)).run P w = .ok () w' ∧ w.grownBy w' (some b) ∧ w'.heap[b]? = some (.map arr' ck') ∧ arr'.toList.map (fun e => (e.key, e.val)) = (setKV k l kv).map (fun p => (encKey kn p.1, encCell ag p.2)) := by
  obtain ⟨K, E, u, h1, h2, h3, rfl⟩ := mapT_spec hT
  have hg : (getObj b).run P w = .ok (.map arr ck) w := by unfold getObj; simp only [Sem.run, hb]
  have hst : ∀ o, (setObj b o).run P w = .ok () { w with heap := w.heap.setIfInBounds b o } := fun o => by unfold setObj; simp only [Sem.run, hb]
  have hlt : b < w.heap.size := lt_of_heap hb
  have hgr : ∀ o, w.grownBy { w with heap := w.heap.setIfInBounds b o } (some b) := by
    intro o
    refine ⟨rfl, rfl, rfl, by simp, fun i hi hne => ?_⟩
    have : b ≠ i := fun e => hne (by rw [e])
    simp [this]
  have hget : ∀ o, ({ w with heap := w.heap.setIfInBounds b o } : World).heap[b]? = some o := by intro o; simp [hlt]
  cases hf : findI k 0 kv with
  | none =>
    refine ⟨_, _, _, ?_, hgr _, hget (.map (arr.push { key := encKey kn k, val := encCell (aggD u) l, born := ck }) (ck + 1)), ?_⟩
    · unfold Instr.mapUpdate
      simp only [Sem.run_bind, run_underlying h1, Result.andThen_ok, hg, mkey_check h2 hk, mrun_find h2 hk w arr.toList kv he hl, hf, Option.map_none, hst]
    · rw [findI_none hf]; simp [he]
  | some q =>
    obtain ⟨j, l0⟩ := q
    obtain ⟨m, rfl, hm, hset⟩ := findI_some (v := l) hf
    rw [Nat.zero_add] at hf
    have hm' : arr.toList[m]?.map (fun e => (e.key, e.val)) = some (encKey kn k, encCell (aggD u) l0) := by
      rw [← List.getElem?_map, he, List.getElem?_map, hm]; rfl
    obtain ⟨en, hen, hkv⟩ : ∃ en, arr[m]? = some en ∧ en.key = encKey kn k := by
      cases h : arr[m]? with
      | none => rw [Array.getElem?_toList, h] at hm'; cases hm'
      | some en => rw [Array.getElem?_toList, h] at hm'; simp at hm'; exact ⟨en, rfl, hm'.1⟩
    refine ⟨_, _, _, ?_, hgr _, hget (.map (arr.modify m fun e => { e with key := encKey kn k, val := encCell (aggD u) l }) ck), ?_⟩
    · have hks : (Instr.keyThatStays (encKey kn k) (encKey kn k)).run P w = .ok (encKey kn k) w := by
        unfold Instr.keyThatStays
        rw [if_pos (encKey_same k hk)]; rfl
      unfold Instr.mapUpdate
      simp only [Sem.run_bind, run_underlying h1, Result.andThen_ok, hg, mkey_check h2 hk, mrun_find h2 hk w arr.toList kv he hl, hf, Option.map_some, hen, Option.getD_some, hkv, hks, hst]
    · rw [hset]
      apply List.ext_getElem?
      intro i
      have hi := congrArg (fun t => t[i]?) he
      simp only [List.getElem?_map, Array.getElem?_toList] at hi ⊢
      rw [Array.getElem?_modify, List.getElem?_set]
      have hml : m < kv.length := (List.getElem?_eq_some_iff.1 hm).1
      by_cases e : m = i
      · subst e
        rw [if_pos rfl, if_pos rfl, if_pos hml, hen]
        rfl
      · rw [if_neg e, if_neg e]; exact hi

variable {own : Nat → Prop} {ι : Iota} {H : List (Nat × Ob)} {nx : Nat}
theorem keyL_rep : ∀ {cs : List SV} {k : List Int} {us : List Value}, keyOf.keyL cs = some k → RepList w own ι H nx cs us → us = k.map (Value.int .i64)
  | [], k, us, h, hr => by
    simp [keyOf.keyL] at h
    subst h
    exact replist_nil hr
  | c :: cs, k, us, h, hr => by
    unfold keyOf.keyL at h
    split at h
    · rename_i e; cases e
    · rename_i n r e
      cases e
      split at h
      · rename_i l hl
        cases h
        obtain ⟨u, ur, rfl, h1, h2⟩ := replist_cons hr
        rw [rep_int h1, keyL_rep hl h2]
        rfl
      · cases h
    · cases h
theorem keyOf_rep {kn : Nat} {key : SV} {k : List Int} {u : Value} (h : keyOf kn key = some k) (hr : Rep w own ι H nx key u) : u = encKey kn k := by
  unfold keyOf at h
  split at h
  · cases h
    rw [rep_int hr]; rfl
  · cases hr with
    | agg _ vs hl hc hh => rw [keyL_rep h ⟨hl, hh⟩]; rfl
  · cases h
theorem mvals_eq : ∀ {l : List CV} {us : List Value}, l.all CV.scalar = true → us.length = l.length → (∀ (i : Nat) (c : CV) (v : Value), l[i]? = some c → us[i]? = some v → RepC w own c v) → us = l.map CV.val
  | [], us, _, hl, _ => by simp at hl; subst hl; rfl
  | c :: l, [], _, hl, _ => by simp at hl
  | c :: l, u :: us, hs, hl, h => by
    simp only [List.all_cons, Bool.and_eq_true] at hs
    rw [List.map_cons, (scalar_rep hs.1).1 (h 0 c u rfl rfl), ← mvals_eq hs.2 (by simpa using hl) (fun i c v hc hv => h (i + 1) c v hc hv)]
theorem val_rep {ag : Bool} {v : SV} {l : List CV} {u : Value} (hc : closedL [] v.cells = some l) (hs : l.all CV.scalar = true) (ho : valOk ag v = true) (hr : Rep w own ι H nx v u) : u = encCell ag l ∧ (ag || Nat.beq l.length 1) = true := by
  unfold valOk at ho
  split at ho
  · subst ho
    cases hr with
    | agg cs vs hl hcc hh =>
      obtain ⟨h1, h2⟩ := closedL_nil hc ⟨hl, hh⟩
      rw [mvals_eq hs h1 h2]
      exact ⟨rfl, rfl⟩
  · rename_i c
    have : ag = false := by cases ag; rfl; cases ho
    subst this
    have hl : l = [c] := by simp [SV.cells, closedL, closed1] at hc; exact hc.symm
    subst hl
    cases hr with
    | c _ _ hr =>
      simp at hs
      exact ⟨(scalar_rep hs).1 hr, rfl⟩
  · cases ho
theorem got_rep {ag ok b : Bool} {l : List CV} {K : SV → Prop} (h : gotV ag ok l b K) (hs : l.all CV.scalar = true) : ∃ v, K v ∧ Rep w own ι H nx v (if ok then .tuple #[encCell ag l, .bool b] else encCell ag l) := by
  have pair : ∀ (x : SV) (u : Value), Rep w own ι H nx x u → Rep w own ι H nx (.tup [x, .c (.bool b)]) (.tuple #[u, .bool b]) := by
    intro x u hx
    have h2 := replist_mk hx (replist_mk (Rep.c (w := w) (own := own) (ι := ι) (H := H) (nx := nx) (.bool b) _ (.bool b)) replist_mk0)
    exact .tup _ _ h2.1 h2.2
  unfold gotV at h
  split at h
  · have hr : Rep w own ι H nx (.agg (l.map .c)) (.agg (l.map CV.val).toArray) := by
      have := replist_map_c (w := w) (own := own) (ι := ι) (H := H) (nx := nx) (cs := l) (us := l.map CV.val) (by simp) (fun i c v hc hv => by
        rw [List.getElem?_map, hc] at hv
        cases hv
        exact (scalar_rep (List.all_eq_true.1 hs c (List.mem_of_getElem? hc))).2 rfl)
      refine .agg _ _ this.1 (fun s hs => ?_) this.2
      obtain ⟨c, _, rfl⟩ := List.mem_map.1 hs
      rfl
    cases ok
    · exact ⟨_, h, hr⟩
    · exact ⟨_, h, pair _ _ hr⟩
  · rename_i c
    simp at hs
    have hr : Rep w own ι H nx (.c c) c.val := .c _ _ ((scalar_rep hs).2 rfl)
    cases ok
    · exact ⟨_, h, hr⟩
    · exact ⟨_, h, pair _ _ hr⟩
  · exact h.elim
theorem bB_eq {a b : Bool} (h : bB a b = true) : a = b := by cases a <;> cases b <;> first | rfl | cases h
end
end Go.Proofs.Ytfghmpfiemmbgaa
