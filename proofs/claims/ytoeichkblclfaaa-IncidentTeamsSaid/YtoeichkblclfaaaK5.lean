/- The edges of a map; the ways of a groomer. -/
import Derived.Test.YtoeichkblclfaaaK4
namespace Go.Proofs.Ytoeichkblclfaaa
open Go.RowKit
abbrev Tr := Int × Int × Int
def addT (l : List Ed) (x : Tr) : List Ed := l ++ [⟨l.length, x.1, x.2.1, x.2.2⟩] ++ [⟨l.length + 1, x.2.1, x.1, x.2.2⟩]
def edgesT (ts : List Tr) : List Ed := ts.foldl addT []
abbrev liftT (x : Lift) : Tr := (x.frm, x.to, x.len)
abbrev runT (x : Rn) : Tr := (x.frm, x.to, x.len)
def linesF (m : Mp) : List Ed := edgesT (m.lifts.map liftT ++ m.runs.map runT)
def bothF (m : Mp) : List Ed := edgesT (m.runs.map runT ++ m.lifts.map liftT)
theorem edges_snoc (ts : List Tr) (x : Tr) : edgesT (ts ++ [x]) = addT (edgesT ts) x := by unfold edgesT; rw [List.foldl_append]; rfl
theorem edges_ind {P : List Tr → Prop} (h0 : P []) (h1 : ∀ ts x, P ts → P (ts ++ [x])) : ∀ ts, P ts := by
  intro ts
  have : ∀ n, ∀ ts : List Tr, ts.length = n → P ts := by
    intro n
    induction n with
    | zero => intro ts h; rw [List.eq_nil_of_length_eq_zero h]; exact h0
    | succ n ih =>
      intro ts h
      have hne : ts ≠ [] := fun e => by subst e; cases h
      have := h1 ts.dropLast (ts.getLast hne) (ih _ (by rw [List.length_dropLast]; omega))
      rwa [List.dropLast_concat_getLast] at this
  exact this _ ts rfl
theorem add_len (l : List Ed) (x : Tr) : (addT l x).length = l.length + 2 := by unfold addT; simp
theorem edges_len (ts : List Tr) : (edgesT ts).length = 2 * ts.length := by
  refine edges_ind (P := fun ts => (edgesT ts).length = 2 * ts.length) rfl (fun ts x h => ?_) ts
  rw [edges_snoc, add_len, h, List.length_append]; simp; omega
/-- An edge is one of the two of a triple. -/
def OfT (e : Ed) (x : Tr) : Prop := (e.fr = x.1 ∧ e.to = x.2.1 ∨ e.fr = x.2.1 ∧ e.to = x.1) ∧ e.cost = x.2.2
theorem edges_of (ts : List Tr) : ∀ e ∈ edgesT ts, ∃ x ∈ ts, OfT e x := by
  refine edges_ind (P := fun ts => ∀ e ∈ edgesT ts, ∃ x ∈ ts, OfT e x) (fun e h => by cases h) (fun ts x h e he => ?_) ts
  rw [edges_snoc, addT, List.mem_append, List.mem_append] at he
  rcases he with (he | he) | he
  · obtain ⟨y, hy, ho⟩ := h e he; exact ⟨y, List.mem_append_left _ hy, ho⟩
  · rw [List.mem_singleton] at he; subst he; exact ⟨x, by simp, .inl ⟨rfl, rfl⟩, rfl⟩
  · rw [List.mem_singleton] at he; subst he; exact ⟨x, by simp, .inr ⟨rfl, rfl⟩, rfl⟩
theorem of_edges (ts : List Tr) : ∀ x ∈ ts, (∃ e ∈ edgesT ts, e.fr = x.1 ∧ e.to = x.2.1 ∧ e.cost = x.2.2) ∧ ∃ e ∈ edgesT ts, e.fr = x.2.1 ∧ e.to = x.1 ∧ e.cost = x.2.2 := by
  refine edges_ind (P := fun ts => ∀ x ∈ ts, (∃ e ∈ edgesT ts, e.fr = x.1 ∧ e.to = x.2.1 ∧ e.cost = x.2.2) ∧ ∃ e ∈ edgesT ts, e.fr = x.2.1 ∧ e.to = x.1 ∧ e.cost = x.2.2) (fun e h => by cases h) (fun ts y h x hx => ?_) ts
  rw [edges_snoc, addT]
  rcases List.mem_append.1 hx with hx | hx
  · obtain ⟨⟨e, he, q⟩, f, hf, r⟩ := h x hx
    exact ⟨⟨e, by simp [he], q⟩, f, by simp [hf], r⟩
  · rw [List.mem_singleton] at hx; subst hx
    exact ⟨⟨⟨(edgesT ts).length, x.1, x.2.1, x.2.2⟩, by simp, rfl, rfl, rfl⟩, ⟨(edgesT ts).length + 1, x.2.1, x.1, x.2.2⟩, by simp, rfl, rfl, rfl⟩
theorem edges_sub {ts us : List Tr} (h : ∀ x ∈ ts, x ∈ us) : ∀ e ∈ edgesT ts, ∃ f ∈ edgesT us, f.fr = e.fr ∧ f.to = e.to ∧ f.cost = e.cost := by
  intro e he
  obtain ⟨x, hx, ho, hc⟩ := edges_of ts e he
  obtain ⟨⟨f, hf, q1, q2, q3⟩, g, hg, r1, r2, r3⟩ := of_edges us x (h x hx)
  rcases ho with ⟨o1, o2⟩ | ⟨o1, o2⟩
  · exact ⟨f, hf, by rw [q1, o1], by rw [q2, o2], by rw [q3, hc]⟩
  · exact ⟨g, hg, by rw [r1, o1], by rw [r2, o2], by rw [r3, hc]⟩
/-- What a right map is like. -/
structure MapOk (m : Mp) : Prop where
  ok : okM m
  nl : m.lifts.length ≤ 32
  nr : m.runs.length ≤ 64
  tr : ∀ x ∈ m.lifts.map liftT ++ m.runs.map runT, ((nodeOf m x.1).isSome = true ∧ (nodeOf m x.2.1).isSome = true) ∧ 0 ≤ x.2.2 ∧ x.2.2 ≤ 1000000
theorem rises_nodes {m : Mp} {f t : Int} (h : risesE m f t = 0) : (nodeOf m f).isSome = true ∧ (nodeOf m t).isSome = true := by
  unfold risesE at h
  split at h
  · cases h
  · rename_i h1
    have h2 := not_or.1 h1
    exact ⟨(Bool.not_eq_false _).mp h2.1, (Bool.not_eq_false _).mp h2.2⟩
theorem mapOk_of {m : Mp} (h : rightM m = 0) : MapOk m := by
  unfold rightM at h
  split at h
  · omega
  rename_i h1
  split at h
  · rename_i h2; exact absurd h h2
  split at h
  · rename_i h2; exact absurd h h2
  rename_i h2
  split at h
  · rename_i h3; exact absurd h h3
  rename_i h3
  refine ⟨okM_of h1, by omega, by omega, fun x hx => ?_⟩
  rcases List.mem_append.1 hx with hx | hx
  · obtain ⟨y, hy, rfl⟩ := List.mem_map.1 hx
    obtain ⟨k, hk⟩ := List.getElem?_of_mem hy
    have hE := fe_all (Decidable.not_not.1 h2) k (List.getElem?_eq_some_iff.1 hk).1
    unfold liftE at hE
    rw [at_of hk] at hE
    split at hE
    · omega
    rename_i hp
    split at hE
    · omega
    split at hE
    · rename_i h4; exact absurd hE h4
    rename_i h4
    have hl := (Decidable.not_not.1 hp).2.2.1
    unfold within at hl
    exact ⟨rises_nodes (Decidable.not_not.1 h4), by show 0 ≤ y.len; omega, by show y.len ≤ 1000000; omega⟩
  · obtain ⟨y, hy, rfl⟩ := List.mem_map.1 hx
    obtain ⟨k, hk⟩ := List.getElem?_of_mem hy
    have hE := fe_all (Decidable.not_not.1 h3) k (List.getElem?_eq_some_iff.1 hk).1
    unfold runE at hE
    rw [at_of hk] at hE
    split at hE
    · omega
    rename_i hp
    split at hE
    · omega
    have hl := (Decidable.not_not.1 hp).2.2.2.2
    unfold within at hl
    exact ⟨(rises_nodes hE).symm, by show 0 ≤ y.len; omega, by show y.len ≤ 1000000; omega⟩
theorem MapOk.lines {m : Mp} (h : MapOk m) : (linesF m).length ≤ 1000 ∧ OkE (linesF m) := by
  obtain ⟨_, h1, h2, h3⟩ := h
  refine ⟨by unfold linesF; rw [edges_len, List.length_append, List.length_map, List.length_map]; omega, fun e he => ?_⟩
  obtain ⟨x, hx, _, hc⟩ := edges_of _ e he
  rw [hc]; exact (h3 x hx).2
theorem MapOk.both {m : Mp} (h : MapOk m) : (bothF m).length ≤ 1000 ∧ OkE (bothF m) := by
  obtain ⟨_, h1, h2, h3⟩ := h
  refine ⟨by unfold bothF; rw [edges_len, List.length_append, List.length_map, List.length_map]; omega, fun e he => ?_⟩
  obtain ⟨x, hx, _, hc⟩ := edges_of _ e he
  rw [hc]; exact (h3 x (by rw [List.mem_append] at hx ⊢; exact hx.symm)).2
theorem lines_both (m : Mp) : (∀ e ∈ linesF m, ∃ f ∈ bothF m, f.fr = e.fr ∧ f.to = e.to ∧ f.cost = e.cost) ∧ ∀ e ∈ bothF m, ∃ f ∈ linesF m, f.fr = e.fr ∧ f.to = e.to ∧ f.cost = e.cost :=
  ⟨edges_sub fun x hx => by rw [List.mem_append] at hx ⊢; exact hx.symm, edges_sub fun x hx => by rw [List.mem_append] at hx ⊢; exact hx.symm⟩
def addS : GSpec := ⟨List Ed × Int × Int × Int, fun p => [.box [.osl 1], .row 129 4 (p.1.map encD)], fun p => [I p.2.1, I p.2.2.1, I p.2.2.2, .bp 0 0], fun p => p.1.length ≤ 1000, fun _ => .tup [], fun _ => [.box [.osl 2], .dead], fun p => [.row 129 4 ((addT p.1 p.2).map encD)]⟩
theorem add_call : callable Try.prog 110 = true := by kernel_rfl

/-! skiarea/groomer.lines$1 -/
def addIr : IFn := ⟨25, [],
  (.seq (.ops [
    ⟨(some 7), .load 1 false, [.tmp 3], none⟩,
    ⟨(some 8), .load 1 false, [.tmp 3], none⟩,
    ⟨(some 9), .len, [.tmp 8], none⟩,
    ⟨(some 10), .mov, [.tmp 0], none⟩,
    ⟨(some 11), .mov, [.tmp 1], none⟩,
    ⟨(some 12), .mov, [.tmp 2], none⟩,
    ⟨(some 13), .build [.int .i64 0, .int .i64 0, .int .i64 0, .int .i64 0] [(0, 1), (1, 1), (2, 1), (3, 1)], [.tmp 9, .tmp 10, .tmp 11, .tmp 12], none⟩,
    ⟨(some 14), .buildSl 129 4, [.tmp 13], none⟩,
    ⟨(some 15), .append 129 4 32, [.tmp 7, .tmp 14], none⟩,
    ⟨none, .store 1, [.tmp 3, .tmp 15], none⟩] false)
  (.ops [
    ⟨(some 16), .load 1 false, [.tmp 3], none⟩,
    ⟨(some 17), .load 1 false, [.tmp 3], none⟩,
    ⟨(some 18), .len, [.tmp 17], none⟩,
    ⟨(some 19), .mov, [.tmp 1], none⟩,
    ⟨(some 20), .mov, [.tmp 0], none⟩,
    ⟨(some 21), .mov, [.tmp 2], none⟩,
    ⟨(some 22), .build [.int .i64 0, .int .i64 0, .int .i64 0, .int .i64 0] [(0, 1), (1, 1), (2, 1), (3, 1)], [.tmp 18, .tmp 19, .tmp 20, .tmp 21], none⟩,
    ⟨(some 23), .buildSl 129 4, [.tmp 22], none⟩,
    ⟨(some 24), .append 129 4 32, [.tmp 16, .tmp 23], none⟩,
    ⟨none, .store 1, [.tmp 3, .tmp 24], none⟩] false))⟩
theorem addLow : lowF Try.prog {} Try.f110 = some addIr := by kernel_rfl
theorem addV : fnG Try.prog addIr addS := by
  intro ⟨(l : List Ed), (a : Int), (b : Int), (c : Int)⟩ hx
  replace hx : l.length ≤ 1000 := hx
  have hl : (l.map encD).length = l.length := List.length_map ..
  have hre : (l.map encD ++ [[CV.int .i64 ((l.map encD).length : Nat), .int .i64 a, .int .i64 b, .int .i64 c]]) ++ [[CV.int .i64 ((l.map encD ++ [[CV.int .i64 ((l.map encD).length : Nat), .int .i64 a, .int .i64 b, .int .i64 c]]).length : Nat), .int .i64 b, .int .i64 a, .int .i64 c]] = (addT l (a, b, c)).map encD := by simp [addT, encD]
  show vc _ _ _ _ ⟨argEnv 0 [I a, I b, I c, .bp 0 0], idxFrom 0 [.box [.osl 1], .row 129 4 (l.map encD)], 2⟩
  repeat' ((conv => whnf); first | refine ⟨⟨by simp; omega, by simp; omega⟩, ?_⟩ | fail | fail)
  exact ⟨[3], rfl, rfl, ⟨⟨rfl, rfl⟩, ⟨congrArg (fun es => some (Ob.row 129 4 es)) hre, rfl⟩, trivial⟩, trivial⟩
theorem add_g : HoldsG Try.prog 110 addS := holdsG_of mix Try.func110 addLow (fun _ => rfl) addV
theorem tr_step {α : Type} {f : α → Tr} {us : List Tr} {l : List α} {k : Nat} {x : α} (hx : l[k]? = some x) : edgesT (us ++ (l.take (k + 1)).map f) = addT (edgesT (us ++ (l.take k).map f)) (f x) := by
  rw [take_snoc l k x hx, List.map_append, ← List.append_assoc, List.map_singleton, edges_snoc]
theorem tr_len {α : Type} {f : α → Tr} {us : List Tr} {l : List α} {k n : Nat} (h : us.length + l.length ≤ n) : (edgesT (us ++ (l.take k).map f)).length ≤ 2 * n := by
  rw [edges_len, List.length_append, List.length_map, List.length_take]; omega

/-! skiarea/groomer.lines -/
def linesIr : IFn := ⟨43, [.tmp 2],
  (.seq (.ops [
    ⟨(some 1), .box, [.tmp 0], none⟩,
    ⟨(some 2), .mov, [.const (.slice none 0 0)], none⟩] false)
  (.seq (.ops [
    ⟨(some 3), .allocN 129 4, [], none⟩] false)
  (.seq (.ops [
    ⟨(some 9), .fn 110, [.tmp 3], none⟩,
    ⟨(some 4), .mov, [.tmp 9], none⟩] false)
  (.seq (.seq (.ops [
    ⟨(some 10), .faddr 1, [.tmp 1], none⟩,
    ⟨(some 11), .load 1 false, [.tmp 10], none⟩,
    ⟨(some 12), .len, [.tmp 11], none⟩,
    ⟨(some 13), .mov, [.const (.int .i64 0)], none⟩] false)
  (.block 0
    (.loop
      (.seq (.ops [
        ⟨(some 14), .cmp .lss, [.tmp 13, .tmp 12], none⟩] false)
      (.seq (.cond (.tmp 14)
        .skip
        (.exit 0))
      (.seq (.block 1
        (.seq (.ops [
          ⟨(some 15), .idx 8, [.tmp 11, .tmp 13], none⟩,
          ⟨(some 16), .load 8 true, [.tmp 15], none⟩,
          ⟨(some 6), .alloc [.int .i64 0, .int .i64 0, .int .i64 0, .int .i64 0, .int .i64 0, .int .i64 0, .int .i64 0, .int .i64 0], [], none⟩,
          ⟨none, .store 8, [.tmp 6, .tmp 16], none⟩] false)
        (.ops [
          ⟨(some 17), .mov, [.tmp 4], none⟩,
          ⟨(some 18), .faddr 2, [.tmp 6], none⟩,
          ⟨(some 19), .load 1 false, [.tmp 18], none⟩,
          ⟨(some 20), .faddr 3, [.tmp 6], none⟩,
          ⟨(some 21), .load 1 false, [.tmp 20], none⟩,
          ⟨(some 22), .faddr 4, [.tmp 6], none⟩,
          ⟨(some 23), .load 1 false, [.tmp 22], none⟩,
          ⟨(some 24), .callvg, [.tmp 17, .tmp 19, .tmp 21, .tmp 23], none⟩] false)))
      (.ops [
        ⟨(some 25), .bin .add .i64 false, [.tmp 13, .const (.int .i64 1)], none⟩,
        ⟨(some 13), .mov, [.tmp 25], none⟩] false)))))))
  (.seq (.seq (.ops [
    ⟨(some 26), .faddr 2, [.tmp 1], none⟩,
    ⟨(some 27), .load 1 false, [.tmp 26], none⟩,
    ⟨(some 28), .len, [.tmp 27], none⟩,
    ⟨(some 29), .mov, [.const (.int .i64 0)], none⟩] false)
  (.block 2
    (.loop
      (.seq (.ops [
        ⟨(some 30), .cmp .lss, [.tmp 29, .tmp 28], none⟩] false)
      (.seq (.cond (.tmp 30)
        .skip
        (.exit 2))
      (.seq (.block 3
        (.seq (.ops [
          ⟨(some 31), .idx 7, [.tmp 27, .tmp 29], none⟩,
          ⟨(some 32), .load 7 true, [.tmp 31], none⟩,
          ⟨(some 8), .alloc [.int .i64 0, .int .i64 0, .int .i64 0, .int .i64 0, .int .i64 0, .int .i64 0, .int .i64 0], [], none⟩,
          ⟨none, .store 7, [.tmp 8, .tmp 32], none⟩] false)
        (.ops [
          ⟨(some 33), .mov, [.tmp 4], none⟩,
          ⟨(some 34), .faddr 2, [.tmp 8], none⟩,
          ⟨(some 35), .load 1 false, [.tmp 34], none⟩,
          ⟨(some 36), .faddr 3, [.tmp 8], none⟩,
          ⟨(some 37), .load 1 false, [.tmp 36], none⟩,
          ⟨(some 38), .faddr 6, [.tmp 8], none⟩,
          ⟨(some 39), .load 1 false, [.tmp 38], none⟩,
          ⟨(some 40), .callvg, [.tmp 33, .tmp 35, .tmp 37, .tmp 39], none⟩] false)))
      (.ops [
        ⟨(some 41), .bin .add .i64 false, [.tmp 29, .const (.int .i64 1)], none⟩,
        ⟨(some 29), .mov, [.tmp 41], none⟩] false)))))))
  (.seq (.ops [
    ⟨(some 42), .load 1 false, [.tmp 3], none⟩,
    ⟨(some 2), .mov, [.tmp 42], none⟩] false)
  .ret))))))⟩
theorem linesLow : lowF Try.prog { owns := [(3, 129)], gvs := [24, 40] } Try.f97 = some linesIr := by kernel_rfl
def linesS : Spec := spec Mp (fun m => [aM m]) MapOk (fun m => L 4 ((linesF m).map encD))
set_option maxHeartbeats 2000000 in
theorem linesV : fnV Try.prog linesIr linesS := by
  intro (m : Mp) (hm : MapOk m)
  obtain ⟨⟨⟨n1, n2⟩, n3, n4⟩, hn1, hn2, _⟩ := hm
  have hl : (m.lifts.map encL).length = m.lifts.length := List.length_map ..
  have hr : (m.runs.map encU).length = m.runs.length := List.length_map ..
  have hlm : (m.lifts.map liftT).length = m.lifts.length := List.length_map ..
  show vc _ _ _ _ ⟨argEnv 0 [aM m], [], 0⟩
  conv => whnf
  refine ⟨Nat × (List Ed), fun xq => ⟨[(1, .bp 0 0), (3, .bp 2 0), (4, .fn 110 [.bp 2 0]), (11, L 8 (m.lifts.map encL)), (12, I (m.lifts.map encL).length), (13, I xq.1)], [(0, .box [L 2 (m.nodes.map encN), L 8 (m.lifts.map encL), L 7 (m.runs.map encU), L 1 (m.bases.map e1)]), (1, .row 129 4 ((xq.2).map encD)), (2, .box [.osl 1])], 3⟩, fun xq => xq.1 ≤ m.lifts.length ∧ xq.2 = edgesT ([] ++ (m.lifts.take xq.1).map liftT), fun xq => m.lifts.length - xq.1, ⟨(0, []), ?_, [], ⟨⟨rfl, rfl⟩, ⟨⟨rfl, rfl⟩, ⟨⟨rfl, rfl⟩, ⟨⟨rfl, rfl⟩, ⟨⟨rfl, rfl⟩, ⟨⟨rfl, rfl⟩, trivial⟩⟩⟩⟩⟩⟩, ⟨⟨rfl, rfl, rfl⟩, ⟨⟨rfl, rfl, rfl⟩, ⟨⟨rfl, rfl, rfl⟩, trivial⟩⟩⟩, rfl, rfl, rfl⟩, ?_⟩
  · (try dsimp only); exact ⟨Nat.zero_le _, rfl⟩
  rintro ⟨k, E⟩ hk
  obtain ⟨hk, hE⟩ : k ≤ m.lifts.length ∧ E = edgesT ([] ++ (m.lifts.take k).map liftT) := hk
  (try dsimp only)
  by_cases hkl : k < m.lifts.length
  · obtain ⟨x, hx⟩ := getElem_some hkl
    have hE0 : E.length ≤ 1000 := by
      have := tr_len (f := liftT) (us := []) (l := m.lifts) (k := k) (n := 96) (by simp; omega)
      rw [hE]; omega
    repeat' ((conv => whnf); first | (refine ⟨fun h => ?_, fun h => ?_⟩ <;> try (exfalso; first | omega | exact absurd h (by decide) | exact h rfl | exact absurd (show true = false from h) (by decide) | exact absurd (show false = true from h) (by decide))) | (refine ⟨by omega, fun r hrr => ?_⟩; first | ((have hre : r = encL x := by (first | exact get_row hrr hx | fail)); subst hre)) | (refine And.intro (by with_reducible exact add_call) ?_; refine ⟨[2, 1], _, add_g, (E, x.frm, x.to, x.len), hE0, ⟨⟨⟨rfl, rfl, rfl⟩, ⟨rfl, rfl, rfl⟩, trivial⟩, rfl, rfl, rfl⟩, ⟨(by show leV (I (x.frm)) (I (x.frm)); exact leV_refl _), (by show leV (I (x.to)) (I (x.to)); exact leV_refl _), (by show leV (I (x.len)) (I (x.len)); exact leV_refl _), ⟨rfl, rfl⟩, trivial⟩, .inl rfl, ⟨⟨trivial, trivial, trivial⟩, trivial⟩, ?_⟩; show norm (.tup []) _) | (refine ⟨(k + 1, addT E (x.frm, x.to, x.len)), ⟨?_, by (try dsimp only); omega⟩, [(1, 4)], ⟨⟨rfl, rfl⟩, ⟨⟨rfl, rfl⟩, ⟨⟨rfl, rfl⟩, ⟨⟨rfl, rfl⟩, ⟨⟨rfl, rfl⟩, ⟨⟨rfl, rfl⟩, trivial⟩⟩⟩⟩⟩⟩, ⟨⟨rfl, rfl, rfl⟩, ⟨⟨rfl, rfl, rfl⟩, ⟨⟨rfl, rfl, rfl⟩, trivial⟩⟩⟩, rfl, rfl, rfl⟩; (try dsimp only); exact ⟨by omega, by rw [tr_step hx, hE]⟩) | refine ⟨⟨by omega, by omega⟩, ?_⟩ | fail | fail)
  · rw [take_end hkl] at hE
    repeat' ((conv => whnf); first | (refine ⟨fun h => ?_, fun h => ?_⟩ <;> try (exfalso; first | omega | exact absurd h (by decide) | exact h rfl | exact absurd (show true = false from h) (by decide) | exact absurd (show false = true from h) (by decide))) | fail | fail)
    refine ⟨Nat × (List Ed), fun xq => ⟨[(3, .bp 2 0), (4, .fn 110 [.bp 2 0]), (27, L 7 (m.runs.map encU)), (28, I (m.runs.map encU).length), (29, I xq.1)], [(1, .row 129 4 ((xq.2).map encD)), (2, .box [.osl 1])], 3⟩, fun xq => xq.1 ≤ m.runs.length ∧ xq.2 = edgesT (m.lifts.map liftT ++ (m.runs.take xq.1).map runT), fun xq => m.runs.length - xq.1, ⟨(0, E), ?_, [], ⟨⟨rfl, rfl⟩, ⟨⟨rfl, rfl⟩, ⟨⟨rfl, rfl⟩, ⟨⟨rfl, rfl⟩, ⟨⟨rfl, rfl⟩, trivial⟩⟩⟩⟩⟩, ⟨⟨rfl, rfl, rfl⟩, ⟨⟨rfl, rfl, rfl⟩, trivial⟩⟩, rfl, rfl, rfl⟩, ?_⟩
    · (try dsimp only); exact ⟨Nat.zero_le _, hE.trans (by simp)⟩
    rintro ⟨j, F⟩ hk
    obtain ⟨hk2, hF⟩ : j ≤ m.runs.length ∧ F = edgesT (m.lifts.map liftT ++ (m.runs.take j).map runT) := hk
    (try dsimp only)
    by_cases hjl : j < m.runs.length
    · obtain ⟨x, hx⟩ := getElem_some hjl
      have hE0 : F.length ≤ 1000 := by
        have := tr_len (f := runT) (us := m.lifts.map liftT) (l := m.runs) (k := j) (n := 96) (by omega)
        rw [hF]; omega
      repeat' ((conv => whnf); first | (refine ⟨fun h => ?_, fun h => ?_⟩ <;> try (exfalso; first | omega | exact absurd h (by decide) | exact h rfl | exact absurd (show true = false from h) (by decide) | exact absurd (show false = true from h) (by decide))) | (refine ⟨by omega, fun r hrr => ?_⟩; first | ((have hre : r = encU x := by (first | exact get_row hrr hx | fail)); subst hre)) | (refine And.intro (by with_reducible exact add_call) ?_; refine ⟨[2, 1], _, add_g, (F, x.frm, x.to, x.len), hE0, ⟨⟨⟨rfl, rfl, rfl⟩, ⟨rfl, rfl, rfl⟩, trivial⟩, rfl, rfl, rfl⟩, ⟨(by show leV (I (x.frm)) (I (x.frm)); exact leV_refl _), (by show leV (I (x.to)) (I (x.to)); exact leV_refl _), (by show leV (I (x.len)) (I (x.len)); exact leV_refl _), ⟨rfl, rfl⟩, trivial⟩, .inl rfl, ⟨⟨trivial, trivial, trivial⟩, trivial⟩, ?_⟩; show norm (.tup []) _) | (refine ⟨(j + 1, addT F (x.frm, x.to, x.len)), ⟨?_, by (try dsimp only); omega⟩, [(1, 4)], ⟨⟨rfl, rfl⟩, ⟨⟨rfl, rfl⟩, ⟨⟨rfl, rfl⟩, ⟨⟨rfl, rfl⟩, ⟨⟨rfl, rfl⟩, trivial⟩⟩⟩⟩⟩, ⟨⟨rfl, rfl, rfl⟩, ⟨⟨rfl, rfl, rfl⟩, trivial⟩⟩, rfl, rfl, rfl⟩; (try dsimp only); exact ⟨by omega, by rw [tr_step hx, hF]⟩) | refine ⟨⟨by omega, by omega⟩, ?_⟩ | fail | fail)
    · rw [take_end hjl] at hF
      repeat' ((conv => whnf); first | (refine ⟨fun h => ?_, fun h => ?_⟩ <;> try (exfalso; first | omega | exact absurd h (by decide) | exact h rfl | exact absurd (show true = false from h) (by decide) | exact absurd (show false = true from h) (by decide))) | fail | fail)
      refine ⟨[], rfl, trivial, ?_⟩
      show leR _ (L 4 ((linesF m).map encD))
      unfold linesF
      rw [← hF]
      show leV (L 4 (F.map encD)) (L 4 (F.map encD))
      exact leV_refl _
theorem lines_h : Holds Try.prog 97 linesS := holds_of mix Try.func97 linesLow (fun _ => rfl) linesV

end Go.Proofs.Ytoeichkblclfaaa
