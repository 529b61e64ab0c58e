/- Periods: results with nil inside; Begin. -/
import Derived.Test.YtpkhannkbafimaaGreatR6
namespace Go.Proofs.YtpkhannkbafimaaGreat
open Go.RowKit
/-- A closed value that reads as another one: a nil within it reads as no rows. -/
inductive leD : CV → CV → Prop
  | same (x : CV) : leD x x
  | nil (k : Nat) : leD .nil (.sl k [])
  | sl (k : Nat) (es es' : List (List CV)) (hl : es.length = es'.length) (hf : es.flatten.length = es'.flatten.length) (hk : ∀ e ∈ es', e.length = k)
      (h : ∀ (i : Nat) (c c' : CV), es.flatten[i]? = some c → es'.flatten[i]? = some c' → leD c c') : leD (.sl k es) (.sl k es')
theorem leD_rep {w : World} {own : Nat → Prop} {x y : CV} (h : leD x y) : ∀ {u : Value}, RepC w own x u → RepC w own y u := by
  induction h with
  | same x => exact id
  | nil k =>
    intro u hr
    cases hr
    exact .sl _ [] none 0 [] (by simp) (by simp) (by omega) (by simp) (by simp) (by simp)
  | sl k es es' hl hf hk h ih =>
    intro u hr
    cases hr with
    | sl _ _ A c xs hk0 h1 h2 hx hA hr =>
      rw [hl]
      refine .sl k es' A c xs hk (by omega) h2 (by rw [hx, hl]) (fun h0 => hA (by omega)) fun i c' v hc hv => ?_
      obtain ⟨c0, hc0⟩ := getElem_some (xs := es.flatten) (k := i) (by rw [hf]; exact (List.getElem?_eq_some_iff.1 hc).1)
      exact ih i c0 c' hc0 hc (hr i c0 v hc0 hv)
def leCs : List CV → List CV → Prop
  | [], [] => True
  | x :: r, y :: t => leD x y ∧ leCs r t
  | _, _ => False
theorem leCs_refl : ∀ l : List CV, leCs l l
  | [] => trivial
  | _ :: r => ⟨.same _, leCs_refl r⟩
theorem leCs_app : ∀ {a b c d : List CV}, leCs a b → leCs c d → leCs (a ++ c) (b ++ d)
  | [], [], _, _, _, h => h
  | [], _ :: _, _, _, h, _ => h.elim
  | _ :: _, [], _, _, h, _ => h.elim
  | _ :: _, _ :: _, _, _, h, h' => ⟨h.1, leCs_app h.2 h'⟩
theorem leCs_len : ∀ {a b : List CV}, leCs a b → a.length = b.length
  | [], [], _ => rfl
  | [], _ :: _, h => h.elim
  | _ :: _, [], h => h.elim
  | _ :: _, _ :: _, h => congrArg (· + 1) (leCs_len h.2)
theorem leCs_get : ∀ {a b : List CV}, leCs a b → ∀ (i : Nat) (c c' : CV), a[i]? = some c → b[i]? = some c' → leD c c'
  | [], [], _, _, _, _, h, _ => by simp at h
  | [], _ :: _, h, _, _, _, _, _ => h.elim
  | _ :: _, [], h, _, _, _, _, _ => h.elim
  | _ :: _, _ :: _, h, 0, _, _, h1, h2 => by cases h1; cases h2; exact h.1
  | _ :: _, _ :: _, h, i + 1, c, c', h1, h2 => leCs_get h.2 i c c' h1 h2
def leRs : List (List CV) → List (List CV) → Prop
  | [], [] => True
  | x :: r, y :: t => leCs x y ∧ leRs r t
  | _, _ => False
theorem leRs_refl : ∀ l : List (List CV), leRs l l
  | [] => trivial
  | _ :: r => ⟨leCs_refl _, leRs_refl r⟩
theorem leRs_app : ∀ {a b c d : List (List CV)}, leRs a b → leRs c d → leRs (a ++ c) (b ++ d)
  | [], [], _, _, _, h => h
  | [], _ :: _, _, _, h, _ => h.elim
  | _ :: _, [], _, _, h, _ => h.elim
  | _ :: _, _ :: _, _, _, h, h' => ⟨h.1, leRs_app h.2 h'⟩
theorem leRs_flat : ∀ {a b : List (List CV)}, leRs a b → a.length = b.length ∧ leCs a.flatten b.flatten
  | [], [], _ => ⟨rfl, trivial⟩
  | [], _ :: _, h => h.elim
  | _ :: _, [], h => h.elim
  | _ :: _, _ :: _, h => ⟨congrArg (· + 1) (leRs_flat h.2).1, leCs_app h.1 (leRs_flat h.2).2⟩
theorem leD_rows {k : Nat} {a b : List (List CV)} (h : leRs a b) (hk : ∀ e ∈ b, e.length = k) : leD (.sl k a) (.sl k b) :=
  .sl k a b (leRs_flat h).1 (leCs_len (leRs_flat h).2) hk fun i c c' h1 h2 => leCs_get (leRs_flat h).2 i c c' h1 h2
/-- What reads as x reads as y. -/
def leT (x y : SV) : Prop := ∀ (w : World) (own : Nat → Prop) (ι : Iota) (H : List (Nat × Ob)) (nx : Nat) (u : Value), Rep w own ι H nx x u → Rep w own ι H nx y u
theorem leT_c {x y : CV} (h : leD x y) : leT (.c x) (.c y) := fun _ _ _ _ _ _ hr => by cases hr with | c _ _ hc => exact .c _ _ (leD_rep h hc)
theorem leT_refl (x : SV) : leT x x := fun _ _ _ _ _ _ h => h
def leTs : List SV → List SV → Prop
  | [], [] => True
  | x :: r, y :: t => leT x y ∧ leTs r t
  | _, _ => False
theorem leTs_get : ∀ {a b : List SV}, leTs a b → a.length = b.length ∧ ∀ (i : Nat) (y : SV), b[i]? = some y → ∃ x, a[i]? = some x ∧ leT x y
  | [], [], _ => ⟨rfl, fun i y h => by simp at h⟩
  | [], _ :: _, h => h.elim
  | _ :: _, [], h => h.elim
  | x :: r, y :: t, h => ⟨congrArg (· + 1) (leTs_get h.2).1, fun i z hz => by
    cases i with
    | zero => cases hz; exact ⟨x, rfl, h.1⟩
    | succ i => exact (leTs_get h.2).2 i z hz⟩
theorem leT_tup {a b : List SV} (h : leTs a b) : leT (.tup a) (.tup b) := fun _ _ _ _ _ _ hr => by
  cases hr with
  | tup _ vs hl hr => exact .tup _ vs ((leTs_get h).1.symm.trans hl) fun i s v hs hv => by obtain ⟨x, hx, hxy⟩ := (leTs_get h).2 i s hs; exact hxy _ _ _ _ _ _ (hr i x v hx hv)
theorem leT_agg {a b : List SV} (h : leTs a b) (hc : ∀ s ∈ b, s.cell = true) : leT (.agg a) (.agg b) := fun _ _ _ _ _ _ hr => by
  cases hr with
  | agg _ vs hl _ hr => exact .agg _ vs ((leTs_get h).1.symm.trans hl) hc fun i s v hs hv => by obtain ⟨x, hx, hxy⟩ := (leTs_get h).2 i s hs; exact hxy _ _ _ _ _ _ (hr i x v hx hv)
theorem holds_res {P : Program} {f : Nat} {X : Type} {args : X → List SV} {pre : X → Prop} {res res' : X → SV} {obs : X → List Ob} (h : Holds P f ⟨X, args, pre, res, obs⟩) (hr : ∀ x, pre x → leT (res x) (res' x)) : Holds P f ⟨X, args, pre, res', obs⟩ :=
  fun x F w vs hx hF hrep => (h x F w vs hx hF hrep).mono fun _ _ ⟨v, ι, h1, h2, h3, h4, h5⟩ => ⟨v, ι, h1, h2, h3, hr x hx _ _ _ _ _ _ h4, h5⟩
/-- Books whose periods stand in rows that read as theirs. -/
theorem leT_bk {es : List (List CV)} {b : Bk} (h : leRs es (b.ps.map encP)) : leT (.agg [L 5 es, L 4 (b.po.map encO), L 8 (b.rs.map encC)]) (aB b) :=
  leT_agg ⟨leT_c (leD_rows h fun e he => by obtain ⟨p, _, rfl⟩ := List.mem_map.1 he; rfl), leT_refl _, leT_refl _, trivial⟩ (by intro s hs; simp at hs; rcases hs with rfl | rfl | rfl <;> rfl)
/-- The first error of Begin, and the books. -/
def beginE (b : Bk) (to : Int) : Int := if 64 ≤ b.ps.length then 9 else if to ≤ endOf b.ps ∨ 20000000 < to then 11 else 0
def newP (b : Bk) (to : Int) : Per := ⟨b.ps.length + 1, endOf b.ps, to, false, []⟩
def beginB (b : Bk) (to : Int) : Bk := if beginE b to = 0 then ⟨b.ps ++ [newP b to], b.po, b.rs⟩ else bk0
def rawN (b : Bk) (to : Int) : List CV := [.int .i64 (b.ps.length + 1), .int .i64 (endOf b.ps), .int .i64 to, .bool false, .nil]
def begX (b : Bk) (to : Int) : SV := if beginE b to = 0 then .tup [.agg [L 5 (b.ps.map encP ++ [rawN b to]), L 4 (b.po.map encO), L 8 (b.rs.map encC)], I 0] else .tup [aB bk0, I (beginE b to)]
theorem beg_le (b : Bk) (to : Int) : leT (begX b to) (.tup [aB (beginB b to), I (beginE b to)]) := by
  unfold begX beginB
  by_cases h : beginE b to = 0
  · rw [if_pos h, if_pos h, h]
    refine leT_tup ⟨leT_bk (b := ⟨b.ps ++ [newP b to], b.po, b.rs⟩) ?_, leT_refl _, trivial⟩
    rw [List.map_append]
    exact leRs_app (leRs_refl _) ⟨⟨.same _, .same _, .same _, .same _, .nil 2, trivial⟩, trivial⟩
  · rw [if_neg h, if_neg h]
    exact leT_refl _

/-! skiarea/period.Begin -/
def beginXIr : IFn := ⟨40, [.cell 4 3 true, .tmp 5],
 (.seq (.ops [
 ⟨(some 2), .box, [.tmp 0], none⟩,
 ⟨(some 4), .alloc [.nil, .nil, .nil], [], none⟩,
 ⟨(some 5), .mov, [.const (.int .i64 0)], none⟩] false)
 (.seq (.seq (.ops [
 ⟨(some 8), .faddr 0, [.tmp 2], none⟩,
 ⟨(some 9), .load 1 false, [.tmp 8], none⟩,
 ⟨(some 10), .len, [.tmp 9], none⟩,
 ⟨(some 11), .cmp .geq, [.tmp 10, .const (.int .i64 64)], none⟩] false)
 (.cond (.tmp 11)
 (.seq (.ops [
 ⟨(some 12), .build [.nil, .nil, .nil] [], [], none⟩,
 ⟨none, .store 3, [.tmp 4, .tmp 12], none⟩,
 ⟨(some 5), .mov, [.const (.int .i64 9)], none⟩] false)
 .ret)
 .skip))
 (.seq (.ops [
 ⟨(some 13), .faddr 0, [.tmp 2], none⟩,
 ⟨(some 14), .load 1 false, [.tmp 13], none⟩,
 ⟨(some 15), .call 48, [.tmp 14], none⟩,
 ⟨(some 6), .mov, [.tmp 15], none⟩] false)
 (.seq (.seq (.ops [
 ⟨(some 16), .mov, [.tmp 1], none⟩,
 ⟨(some 17), .mov, [.tmp 6], none⟩,
 ⟨(some 18), .cmp .leq, [.tmp 16, .tmp 17], none⟩,
 ⟨(some 19), .mov, [.tmp 18], none⟩,
 ⟨(some 20), .mov, [.tmp 1], (some (19, false))⟩,
 ⟨(some 21), .cmp .gtr, [.tmp 20, .const (.int .i64 20000000)], (some (19, false))⟩,
 ⟨(some 22), .pick, [.tmp 19, .const (.bool true), .tmp 21], none⟩] false)
 (.cond (.tmp 22)
 (.seq (.ops [
 ⟨(some 23), .build [.nil, .nil, .nil] [], [], none⟩,
 ⟨none, .store 3, [.tmp 4, .tmp 23], none⟩,
 ⟨(some 5), .mov, [.const (.int .i64 11)], none⟩] false)
 .ret)
 .skip))
 (.seq (.ops [
 ⟨(some 24), .load 3 true, [.tmp 2], none⟩,
 ⟨(some 25), .callo 49, [.tmp 24], none⟩,
 ⟨(some 7), .alloc [.nil, .nil, .nil], [], none⟩,
 ⟨none, .store 3, [.tmp 7, .tmp 25], none⟩] false)
 (.seq (.ops [
 ⟨(some 26), .faddr 0, [.tmp 7], none⟩,
 ⟨(some 27), .load 1 false, [.tmp 26], none⟩,
 ⟨(some 28), .faddr 0, [.tmp 2], none⟩,
 ⟨(some 29), .load 1 false, [.tmp 28], none⟩,
 ⟨(some 30), .len, [.tmp 29], none⟩,
 ⟨(some 31), .bin .add .i64 false, [.tmp 30, .const (.int .i64 1)], none⟩,
 ⟨(some 32), .mov, [.tmp 6], none⟩,
 ⟨(some 33), .mov, [.tmp 1], none⟩,
 ⟨(some 34), .build [.int .i64 0, .int .i64 0] [(0, 1), (1, 1)], [.tmp 32, .tmp 33], none⟩,
 ⟨(some 35), .build [.int .i64 0, .int .i64 0, .int .i64 0, .bool false, .nil] [(0, 1), (1, 2)], [.tmp 31, .tmp 34], none⟩,
 ⟨(some 36), .buildSl 76 5, [.tmp 35], none⟩,
 ⟨(some 37), .append 76 5 56, [.tmp 27, .tmp 36], none⟩,
 ⟨(some 38), .faddr 0, [.tmp 7], none⟩,
 ⟨none, .store 1, [.tmp 38, .tmp 37], none⟩] false)
 (.seq (.ops [
 ⟨(some 39), .load 3 true, [.tmp 7], none⟩,
 ⟨none, .store 3, [.tmp 4, .tmp 39], none⟩,
 ⟨(some 5), .mov, [.const (.int .i64 0)], none⟩] false)
 .ret)))))))⟩
theorem beginXLow : lowF Tryz.prog { gives := [25] } Tryz.f15 = some beginXIr := by kernel_rfl
def beginXS : Spec := spec (Bk × Int) (fun p => [aB p.1, I p.2]) (fun p => smB p.1) (fun p => begX p.1 p.2)
set_option maxHeartbeats 1000000 in
theorem beginXV : fnV Tryz.prog beginXIr beginXS := by
  intro ⟨(b : Bk), (to : Int)⟩ hb
  replace hb : smB b := hb
  obtain ⟨⟨c1, c2, c3⟩, c4⟩ : (b.ps.length ≤ 1000000 ∧ b.po.length ≤ 1000000 ∧ b.rs.length ≤ 1000000) ∧ ∀ p ∈ b.ps, p.sh.length ≤ 1000000 := hb
  have hb : smB b := ⟨⟨c1, c2, c3⟩, c4⟩
  have hlp : (b.ps.map encP).length = b.ps.length := List.length_map ..
  have hlo : (b.po.map encO).length = b.po.length := List.length_map ..
  have hlr : (b.rs.map encC).length = b.rs.length := List.length_map ..
  show vc _ _ _ _ ⟨argEnv 0 [aB b, I to], [], 0⟩
  have hE : beginE b to = if 64 ≤ b.ps.length then 9 else if to ≤ endOf b.ps ∨ 20000000 < to then 11 else 0 := rfl
  by_cases h1 : 64 ≤ b.ps.length
  · rw [if_pos h1] at hE
    have hX : begX b to = .tup [aB bk0, I 9] := by unfold begX; rw [hE]; rfl
    repeat' ((conv => whnf); first | (refine ⟨fun h => ?_, fun h => ?_⟩ <;> try (exfalso; first | omega | exact absurd h (by decide) | exact h rfl | exact absurd (show true = false from h) (by decide) | exact absurd (show false = true from h) (by decide))) | fail | fail)
    all_goals (refine ⟨[], rfl, trivial, ?_⟩; show leR _ (begX b to); rw [hX]; exact ⟨⟨rfl, rfl, rfl, trivial⟩, rfl, trivial⟩)
  rw [if_neg h1] at hE
  by_cases h2 : to ≤ endOf b.ps ∨ 20000000 < to
  · rw [if_pos h2] at hE
    have hX : begX b to = .tup [aB bk0, I 11] := by unfold begX; rw [hE]; rfl
    repeat' ((conv => whnf); first | (refine ⟨fun h => ?_, fun h => ?_⟩ <;> try (exfalso; first | omega | exact absurd h (by decide) | exact h rfl | exact absurd (show true = false from h) (by decide) | exact absurd (show false = true from h) (by decide))) | (refine ⟨_, endp_h, b.ps, (by show b.ps.length ≤ _; omega), leVs_of_eq rfl, .inl rfl, rfl, ?_⟩; show norm (I (endOf b.ps)) _) | fail | fail)
    all_goals (refine ⟨[], rfl, trivial, ?_⟩; show leR _ (begX b to); rw [hX]; exact ⟨⟨rfl, rfl, rfl, trivial⟩, rfl, trivial⟩)
  rw [if_neg h2] at hE
  have hX : begX b to = .tup [.agg [L 5 (b.ps.map encP ++ [rawN b to]), L 4 (b.po.map encO), L 8 (b.rs.map encC)], I 0] := by unfold begX; rw [hE]; rfl
  repeat' ((conv => whnf); first | (refine ⟨fun h => ?_, fun h => ?_⟩ <;> try (exfalso; first | omega | exact absurd h (by decide) | exact h rfl | exact absurd (show true = false from h) (by decide) | exact absurd (show false = true from h) (by decide))) | (refine ⟨_, endp_h, b.ps, (by show b.ps.length ≤ _; omega), leVs_of_eq rfl, .inl rfl, rfl, ?_⟩; show norm (I (endOf b.ps)) _) | fail | fail)
  conv => whnf
  dsimp only
  refine ⟨rfl, _, copyOf_h, b, hb, leVs_of_eq rfl, trivial, ?_⟩
  repeat' ((conv => whnf); (try dsimp only [setL, List.map_cons, List.map_nil, List.take, List.drop, SV.cells, constV, shift, St.new, St.put, kills, killI, Nat.reduceAdd]); first | refine ⟨⟨by omega, by omega⟩, ?_⟩ | (refine ⟨⟨by first | omega | (simp only [List.length_nil]; omega) | (simp only [List.length_cons, List.length_nil]; omega), by first | omega | (simp only [List.length_nil]; omega) | (simp only [List.length_cons, List.length_nil]; omega)⟩, ?_⟩) | fail | fail)
  conv => whnf
  refine ⟨[], rfl, trivial, ?_⟩
  show leR _ (begX b to)
  rw [hX]
  show leR [.agg [L 5 (b.ps.map encP ++ [[.int .i64 (((b.ps.map encP).length : Int) + 1), .int .i64 (endOf b.ps), .int .i64 to, .bool false, .nil]]), L 4 (b.po.map encO), L 8 (b.rs.map encC)], I 0] _
  rw [hlp]
  exact ⟨⟨rfl, rfl, rfl, trivial⟩, rfl, trivial⟩
theorem beginX_h : Holds Tryz.prog 15 beginXS := holds_of mix Tryz.func15 beginXLow (fun _ => rfl) beginXV

theorem begin_h : Holds Tryz.prog 15 ⟨Bk × Int, fun p => [aB p.1, I p.2], fun p => smB p.1, fun p => .tup [aB (beginB p.1 p.2), I (beginE p.1 p.2)], fun _ => []⟩ := holds_res beginX_h fun p _ => beg_le p.1 p.2

/-! skiarea/skiarearef38.Begin -/
end Go.Proofs.YtpkhannkbafimaaGreat
