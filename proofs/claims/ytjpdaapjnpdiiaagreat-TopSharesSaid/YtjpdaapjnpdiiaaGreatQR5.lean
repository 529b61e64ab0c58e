/- A part of the proof. -/
import Derived.Test.YtjpdaapjnpdiiaaGreatQR4
import Derived.Test.YtjpdaapjnpdiiaaGreatShelf
import Derived.Test.YtjpdaapjnpdiiaaGreatQShelf
namespace Go.Proofs.YtjpdaapjnpdiiaaGreat.P
open Go.RowKit
theorem pst_ext {x y : Pst} (h : x.ref = y.ref ∧ x.fr = y.fr ∧ x.to = y.to ∧ x.am = y.am ∧ True) : x = y := by
 obtain ⟨a0, a1, a2, a3, _⟩ := h
 cases x; cases y; simp_all
theorem pst_ne {x y : Pst} (h : ¬ (x.ref = y.ref ∧ x.fr = y.fr ∧ x.to = y.to ∧ x.am = y.am ∧ True)) : x ≠ y := fun e => h (by subst e; exact ⟨rfl, rfl, rfl, rfl, trivial⟩)
def clonePIr : IFn := ⟨8, [.tmp 2], (zq [ zo 2 (.nilOwn 89 5) []] (.seq (zq [ zm 3 0, zo 4 (.isnil false) [3]] (.cond (.tmp 4) (zq [ zo 2 (.nilOwn 89 5) []] .ret) .skip)) (zq [ zo 5 (.buildOwn 89 5) [], zm 6 0, zo 7 (.append 89 5 56) [5, 6], zm 2 7] .ret)))⟩
theorem clonePLow : lowF Tryz.prog { owns := [(2, 89), (5, 89)] } Tryz.f61 = some clonePIr := by kernel_rfl
def clonePS : Spec := ⟨List Per, fun l => [L 5 (l.map encP)], fun l => l.length ≤ 1000000, fun _ => .osl 0, fun l => [.row 89 5 (l.map encP)]⟩
theorem clonePV : fnV Tryz.prog clonePIr clonePS := by
 intro (xs : List Per) (hx : xs.length ≤ 1000000)
 have hl : (xs.map encP).length = xs.length := List.length_map ..
 conv => whnf
 refine ⟨fun h => ?_, ?_⟩
 · conv => whnf
   refine ⟨[1], rfl, ⟨⟨?_, _, _, _, rfl⟩, trivial⟩, ?_⟩
   · show some (Ob.row 89 5 []) = some (Ob.row 89 5 (xs.map encP))
     rw [h]
   · rfl
 · conv => whnf
   refine ⟨⟨by simp; omega, by simp; omega⟩, ?_⟩
   conv => whnf
   exact ⟨[2], rfl, ⟨⟨rfl, _, _, _, rfl⟩, trivial⟩, rfl⟩
theorem cloneP_h : Holds Tryz.prog 61 clonePS := holds_of mix Tryz.func61 clonePLow (fun _ => rfl) clonePV
def cloneOIr : IFn := ⟨8, [.tmp 2], (zq [ zo 2 (.nilOwn 59 4) []] (.seq (zq [ zm 3 0, zo 4 (.isnil false) [3]] (.cond (.tmp 4) (zq [ zo 2 (.nilOwn 59 4) []] .ret) .skip)) (zq [ zo 5 (.buildOwn 59 4) [], zm 6 0, zo 7 (.append 59 4 32) [5, 6], zm 2 7] .ret)))⟩
theorem cloneOLow : lowF Tryz.prog { owns := [(2, 59), (5, 59)] } Tryz.f62 = some cloneOIr := by kernel_rfl
def cloneOS : Spec := ⟨List Pst, fun l => [L 4 (l.map encO)], fun l => l.length ≤ 1000000, fun _ => .osl 0, fun l => [.row 59 4 (l.map encO)]⟩
theorem cloneOV : fnV Tryz.prog cloneOIr cloneOS := by
 intro (xs : List Pst) (hx : xs.length ≤ 1000000)
 have hl : (xs.map encO).length = xs.length := List.length_map ..
 conv => whnf
 refine ⟨fun h => ?_, ?_⟩
 · conv => whnf
   refine ⟨[1], rfl, ⟨⟨?_, _, _, _, rfl⟩, trivial⟩, ?_⟩
   · show some (Ob.row 59 4 []) = some (Ob.row 59 4 (xs.map encO))
     rw [h]
   · rfl
 · conv => whnf
   refine ⟨⟨by simp; omega, by simp; omega⟩, ?_⟩
   conv => whnf
   exact ⟨[2], rfl, ⟨⟨rfl, _, _, _, rfl⟩, trivial⟩, rfl⟩
theorem cloneO_h : Holds Tryz.prog 62 cloneOS := holds_of mix Tryz.func62 cloneOLow (fun _ => rfl) cloneOV
def cloneRIr : IFn := ⟨8, [.tmp 2], (zq [ zo 2 (.nilOwn 104 8) []] (.seq (zq [ zm 3 0, zo 4 (.isnil false) [3]] (.cond (.tmp 4) (zq [ zo 2 (.nilOwn 104 8) []] .ret) .skip)) (zq [ zo 5 (.buildOwn 104 8) [], zm 6 0, zo 7 (.append 104 8 64) [5, 6], zm 2 7] .ret)))⟩
theorem cloneRLow : lowF Tryz.prog { owns := [(2, 104), (5, 104)] } Tryz.f63 = some cloneRIr := by kernel_rfl
def cloneRS : Spec := ⟨List Cnt, fun l => [L 8 (l.map encC)], fun l => l.length ≤ 1000000, fun _ => .osl 0, fun l => [.row 104 8 (l.map encC)]⟩
theorem cloneRV : fnV Tryz.prog cloneRIr cloneRS := by
 intro (xs : List Cnt) (hx : xs.length ≤ 1000000)
 have hl : (xs.map encC).length = xs.length := List.length_map ..
 conv => whnf
 refine ⟨fun h => ?_, ?_⟩
 · conv => whnf
   refine ⟨[1], rfl, ⟨⟨?_, _, _, _, rfl⟩, trivial⟩, ?_⟩
   · show some (Ob.row 104 8 []) = some (Ob.row 104 8 (xs.map encC))
     rw [h]
   · rfl
 · conv => whnf
   refine ⟨⟨by simp; omega, by simp; omega⟩, ?_⟩
   conv => whnf
   exact ⟨[2], rfl, ⟨⟨rfl, _, _, _, rfl⟩, trivial⟩, rfl⟩
theorem cloneR_h : Holds Tryz.prog 63 cloneRS := holds_of mix Tryz.func63 cloneRLow (fun _ => rfl) cloneRV
def cloneSIr : IFn := ⟨8, [.tmp 2], (zq [ zo 2 (.nilOwn 47 2) []] (.seq (zq [ zm 3 0, zo 4 (.isnil false) [3]] (.cond (.tmp 4) (zq [ zo 2 (.nilOwn 47 2) []] .ret) .skip)) (zq [ zo 5 (.buildOwn 47 2) [], zm 6 0, zo 7 (.append 47 2 16) [5, 6], zm 2 7] .ret)))⟩
theorem cloneSLow : lowF Tryz.prog { owns := [(2, 47), (5, 47)] } Tryz.f41 = some cloneSIr := by kernel_rfl
def cloneSS : Spec := spec (List Share) (fun l => [L 2 (l.map encS)]) (fun l => l.length ≤ 1000000) (fun l => L 2 (l.map encS))
theorem cloneSV : fnV Tryz.prog cloneSIr cloneSS := by
 intro (xs : List Share) (hx : xs.length ≤ 1000000)
 have hl : (xs.map encS).length = xs.length := List.length_map ..
 conv => whnf
 refine ⟨fun h => ?_, ?_⟩
 · conv => whnf
   refine ⟨[], rfl, trivial, ?_⟩
   show leV (L 2 []) (L 2 (xs.map encS))
   rw [h]
   exact leV_refl _
 · conv => whnf
   refine ⟨⟨by simp; omega, by simp; omega⟩, ?_⟩
   conv => whnf
   refine ⟨[], rfl, trivial, ?_⟩
   show leV (L 2 (xs.map encS)) (L 2 (xs.map encS))
   exact leV_refl _
theorem cloneS_h : Holds Tryz.prog 41 cloneSS := holds_of mix Tryz.func41 cloneSLow (fun _ => rfl) cloneSV
def smB (b : Bk) : Prop := (b.ps.length ≤ 1000000 ∧ b.po.length ≤ 1000000 ∧ b.rs.length ≤ 1000000) ∧ ∀ p ∈ b.ps, p.sh.length ≤ 1000000
theorem set_same {α : Type} {l : List α} {i : Nat} {x : α} (h : l[i]? = some x) : l.set i x = l := by
 apply List.ext_getElem?
 intro j
 by_cases e : i = j
 · subst e; rw [List.getElem?_set_self (List.getElem?_eq_some_iff.1 h).1, h]
 · rw [List.getElem?_set_ne e]
abbrev rowP (l : List Per) : Ob := .row 89 5 (l.map encP)
abbrev rowO (l : List Pst) : Ob := .row 59 4 (l.map encO)
abbrev rowC (l : List Cnt) : Ob := .row 104 8 (l.map encC)
abbrev nils : Ob := .box [.c .nil, .c .nil, .c .nil]
def copyOfIr : IFn := ⟨35, [.cell 2 3 true], (zq [ zo 1 .box [0], zo 2 (.alloc [.nil, .nil, .nil]) []] (.seq (.seq (.sealc 1) (.ops [ zo 5 (.faddrR 0) [1], zo 6 (.loadR 1 false) [5], zo 7 (.callo 61) [6], zo 8 (.faddrR 1) [1], zo 9 (.loadR 1 false) [8], zo 10 (.callo 62) [9], zo 11 (.faddrR 2) [1], zo 12 (.loadR 1 false) [11], zo 13 (.callo 63) [12], zo 14 (.build [.nil, .nil, .nil] [(0, 1), (1, 1), (2, 1)]) [7, 10, 13], zo 3 (.alloc [.nil, .nil, .nil]) [], zn (.store 3) [3, 14]] true)) (.seq (zq [ zo 15 (.faddr 0) [3], zo 16 (.load 1 false) [15], zo 17 .len [16], zl 18 .mov [zi 0]] (.block 0 (.loop (zq [ zo 19 (.cmp
 .lss) [18, 17]] (.seq (.cond (.tmp 19) .skip (.exit 0)) (.seq (.block 1 (zq [ zm 20 18, zm 4 20] (.ops [ zo 21 (.faddr 0) [3], zo 22 (.load 1 false) [21], zm 23 4, zo 24 (.faddr 0) [3], zo 25 (.load 1 false) [24], zm 26 4, zo 27 (.idx 5) [25, 26], zo 28 (.faddr 4) [27], zo 29 (.load 1 false) [28], zo 30 (.call 41) [29], zo 31 (.idx 5) [22, 23], zo 32 (.faddr 4) [31], zn (.store 1) [32, 30]] true))) (zp [ zl 33 (.bin .add .i64 false) [.tmp 18, zi 1], zm 18 33]))))))) (zq [ zo 34 (.load 3 true) [3], zn (.store 3) [2, 34]] .ret))))⟩
theorem copyOfLow : lowF Tryz.prog { gives := [7, 10, 13], rps := [5, 6, 8, 9, 11, 12], seals := [(5, 1)] } Tryz.f34 = some copyOfIr := by kernel_rfl
def copyOfS : Spec := ⟨Bk, fun b => [aB b], smB, fun _ => .agg [.osl 0, .osl 1, .osl 2], fun b => [rowP b.ps, rowO b.po, rowC b.rs]⟩
theorem copyOfV : fnV Tryz.prog copyOfIr copyOfS := by
 intro (b : Bk) hb
 obtain ⟨⟨c1, c2, c3⟩, c4⟩ : (b.ps.length ≤ 1000000 ∧ b.po.length ≤ 1000000 ∧ b.rs.length ≤ 1000000) ∧ ∀ p ∈ b.ps, p.sh.length ≤ 1000000 := hb
 have hlp : (b.ps.map encP).length = b.ps.length := List.length_map ..
 have hlo : (b.po.map encO).length = b.po.length := List.length_map ..
 have hlr : (b.rs.map encC).length = b.rs.length := List.length_map ..
 show vc _ _ _ _ ⟨argEnv 0 [aB b], [], 0⟩
 conv => whnf
 refine ⟨rfl, _, cloneP_h, b.ps, c1, leVs_of_eq rfl, trivial, ?_⟩
 conv => whnf
 dsimp only
 refine ⟨rfl, _, cloneO_h, b.po, c2, leVs_of_eq rfl, trivial, ?_⟩
 conv => whnf
 dsimp only
 refine ⟨rfl, _, cloneR_h, b.rs, c3, leVs_of_eq rfl, trivial, ?_⟩
 conv => whnf
 dsimp only
 refine ⟨Nat, fun xq => ⟨[(2, .bp 0 0), (3, .bp 4 0), (17, I (b.ps.map encP).length), (18, I xq)], [(0, nils), (1, rowP b.ps), (2, rowO b.po), (3, rowC b.rs), (4, .box [.osl 1, .osl 2, .osl 3])], 5⟩, fun xq => xq ≤ b.ps.length, fun xq => b.ps.length - xq, ⟨0, ?_, [(0, 1), (1, 2), (2, 3), (3, 4), (4, 5)], ⟨⟨rfl, rfl⟩, ⟨rfl, rfl⟩, ⟨rfl, rfl⟩, ⟨rfl, rfl⟩, trivial⟩, ⟨⟨rfl, rfl, rfl⟩, ⟨rfl, rfl, rfl⟩, ⟨rfl, rfl, rfl⟩, ⟨rfl, rfl, rfl⟩, ⟨rfl, rfl, rfl⟩, trivial⟩, rfl, rfl, rfl⟩, ?_⟩
 · (try dsimp only); exact Nat.zero_le _
 rintro k hk
 obtain hk : k ≤ b.ps.length := hk
 (try dsimp only)
 by_cases hkl : k < b.ps.length
 · obtain ⟨x, hx⟩ := getElem_some hkl
   have hxs := c4 x (List.mem_of_getElem? hx)
   have hk1 : (b.ps.map encP)[((k : Nat) : Int).toNat]? = some (encP x) := by rw [Int.toNat_natCast, List.getElem?_map, hx]; rfl
   have hset : (b.ps.map encP).set ((k : Nat) : Int).toNat (setL (encP x) 4 [CV.sl 2 (x.sh.map encS)]) = b.ps.map encP := set_same hk1
   repeat' ((conv => whnf); first | (refine ⟨fun h => ?_, fun h => ?_⟩ <;> try (exfalso; first | omega | (revert h; decide) | exact h rfl | cases (show true = false from h) | cases (show false = true from h))) | refine get_at hk1 ?_ | (refine ⟨_, cloneS_h, x.sh, hxs, leVs_of_eq rfl, .inl rfl, rfl, ?_⟩; show norm (L 2 (x.sh.map encS)) _) | (refine ⟨k + 1, ⟨?_, by (try dsimp only); omega⟩, [], ⟨⟨rfl, rfl⟩, ⟨rfl, rfl⟩, ⟨rfl, rfl⟩, ⟨rfl, rfl⟩, trivial⟩, ⟨⟨rfl, rfl, rfl⟩, ⟨⟨congrArg (fun es => some (Ob.row 89 5 es)) hset, rfl, rfl⟩, ⟨⟨rfl, rfl, rfl⟩, ⟨rfl, rfl, rfl⟩, ⟨rfl, rfl, rfl⟩, trivial⟩⟩⟩, rfl, rfl, rfl⟩; (try dsimp only); omega) | refine ⟨⟨by omega, by omega⟩, ?_⟩ | fail)
 · repeat' ((conv => whnf); first | (refine ⟨fun h => ?_, fun h => ?_⟩ <;> try (exfalso; first | omega | (revert h; decide) | exact h rfl | cases (show true = false from h) | cases (show false = true from h))) | fail)
   conv => whnf
   exact ⟨[1, 2, 3], rfl, ⟨⟨rfl, _, _, _, rfl⟩, ⟨rfl, _, _, _, rfl⟩, ⟨rfl, _, _, _, rfl⟩, trivial⟩, rfl, rfl, rfl, trivial⟩
theorem copyOf_h : Holds Tryz.prog 34 copyOfS := holds_of mix Tryz.func34 copyOfLow (fun _ => rfl) copyOfV
inductive leD : CV → CV → Prop
 | same (x : CV) : leD x x
 | nil (k : Nat) : leD .nil (.sl k [])
 | sl (k : Nat) (es es' : List (List CV)) (hl : es.length = es'.length) (hf : es.flatten.length = es'.flatten.length) (hk : ∀ e ∈ es', e.length = k)
     (h : ∀ (i : Nat) (c c' : CV), es.flatten[i]? = some c → es'.flatten[i]? = some c' → leD c c') : leD (.sl k es) (.sl k es')
theorem leD_rep {w : World} {own : Nat → Prop} {x y : CV} (h : leD x y) : ∀ {u : Value}, RepC w own x u → RepC w own y u := by
 induction h with
 | same x => exact id
 | nil k =>
   intro u hr
   cases hr
   exact .sl _ [] none 0 [] (by simp) (by simp) (by omega) (by simp) (by simp) (by simp)
 | sl k es es' hl hf hk h ih =>
   intro u hr
   cases hr with
   | sl _ _ A c xs hk0 h1 h2 hx hA hr =>
     rw [hl]
     refine .sl k es' A c xs hk (by omega) h2 (by rw [hx, hl]) (fun h0 => hA (by omega)) fun i c' v hc hv => ?_
     obtain ⟨c0, hc0⟩ := getElem_some (xs := es.flatten) (k := i) (by rw [hf]; exact (List.getElem?_eq_some_iff.1 hc).1)
     exact ih i c0 c' hc0 hc (hr i c0 v hc0 hv)
def leCs : List CV → List CV → Prop
 | [], [] => True
 | x :: r, y :: t => leD x y ∧ leCs r t
 | _, _ => False
theorem leCs_refl : ∀ l : List CV, leCs l l
 | [] => trivial
 | _ :: r => ⟨.same _, leCs_refl r⟩
theorem leCs_app : ∀ {a b c d : List CV}, leCs a b → leCs c d → leCs (a ++ c) (b ++ d)
 | [], [], _, _, _, h => h
 | [], _ :: _, _, _, h, _ => h.elim
 | _ :: _, [], _, _, h, _ => h.elim
 | _ :: _, _ :: _, _, _, h, h' => ⟨h.1, leCs_app h.2 h'⟩
theorem leCs_len : ∀ {a b : List CV}, leCs a b → a.length = b.length
 | [], [], _ => rfl
 | [], _ :: _, h => h.elim
 | _ :: _, [], h => h.elim
 | _ :: _, _ :: _, h => congrArg (· + 1) (leCs_len h.2)
theorem leCs_get : ∀ {a b : List CV}, leCs a b → ∀ (i : Nat) (c c' : CV), a[i]? = some c → b[i]? = some c' → leD c c'
 | [], [], _, _, _, _, h, _ => by simp at h
 | [], _ :: _, h, _, _, _, _, _ => h.elim
 | _ :: _, [], h, _, _, _, _, _ => h.elim
 | _ :: _, _ :: _, h, 0, _, _, h1, h2 => by cases h1; cases h2; exact h.1
 | _ :: _, _ :: _, h, i + 1, c, c', h1, h2 => leCs_get h.2 i c c' h1 h2
def leRs : List (List CV) → List (List CV) → Prop
 | [], [] => True
 | x :: r, y :: t => leCs x y ∧ leRs r t
 | _, _ => False
theorem leRs_refl : ∀ l : List (List CV), leRs l l
 | [] => trivial
 | _ :: r => ⟨leCs_refl _, leRs_refl r⟩
theorem leRs_app : ∀ {a b c d : List (List CV)}, leRs a b → leRs c d → leRs (a ++ c) (b ++ d)
 | [], [], _, _, _, h => h
 | [], _ :: _, _, _, h, _ => h.elim
 | _ :: _, [], _, _, h, _ => h.elim
 | _ :: _, _ :: _, _, _, h, h' => ⟨h.1, leRs_app h.2 h'⟩
theorem leRs_flat : ∀ {a b : List (List CV)}, leRs a b → a.length = b.length ∧ leCs a.flatten b.flatten
 | [], [], _ => ⟨rfl, trivial⟩
 | [], _ :: _, h => h.elim
 | _ :: _, [], h => h.elim
 | _ :: _, _ :: _, h => ⟨congrArg (· + 1) (leRs_flat h.2).1, leCs_app h.1 (leRs_flat h.2).2⟩
theorem leD_rows {k : Nat} {a b : List (List CV)} (h : leRs a b) (hk : ∀ e ∈ b, e.length = k) : leD (.sl k a) (.sl k b) :=
 .sl k a b (leRs_flat h).1 (leCs_len (leRs_flat h).2) hk fun i c c' h1 h2 => leCs_get (leRs_flat h).2 i c c' h1 h2
def leT (x y : SV) : Prop := ∀ (w : World) (own : Nat → Prop) (ι : Iota) (H : List (Nat × Ob)) (nx : Nat) (u : Value), Rep w own ι H nx x u → Rep w own ι H nx y u
theorem leT_c {x y : CV} (h : leD x y) : leT (.c x) (.c y) := fun _ _ _ _ _ _ hr => by cases hr with | c _ _ hc => exact .c _ _ (leD_rep h hc)
theorem leT_refl (x : SV) : leT x x := fun _ _ _ _ _ _ h => h
def leTs : List SV → List SV → Prop
 | [], [] => True
 | x :: r, y :: t => leT x y ∧ leTs r t
 | _, _ => False
theorem leTs_get : ∀ {a b : List SV}, leTs a b → a.length = b.length ∧ ∀ (i : Nat) (y : SV), b[i]? = some y → ∃ x, a[i]? = some x ∧ leT x y
 | [], [], _ => ⟨rfl, fun i y h => by simp at h⟩
 | [], _ :: _, h => h.elim
 | _ :: _, [], h => h.elim
 | x :: r, y :: t, h => ⟨congrArg (· + 1) (leTs_get h.2).1, fun i z hz => by
   cases i with
   | zero => cases hz; exact ⟨x, rfl, h.1⟩
   | succ i => exact (leTs_get h.2).2 i z hz⟩
theorem leT_tup {a b : List SV} (h : leTs a b) : leT (.tup a) (.tup b) := fun _ _ _ _ _ _ hr => by
 cases hr with
 | tup _ vs hl hr => exact .tup _ vs ((leTs_get h).1.symm.trans hl) fun i s v hs hv => by obtain ⟨x, hx, hxy⟩ := (leTs_get h).2 i s hs; exact hxy _ _ _ _ _ _ (hr i x v hx hv)
theorem leT_agg {a b : List SV} (h : leTs a b) (hc : ∀ s ∈ b, s.cell = true) : leT (.agg a) (.agg b) := fun _ _ _ _ _ _ hr => by
 cases hr with
 | agg _ vs hl _ hr => exact .agg _ vs ((leTs_get h).1.symm.trans hl) hc fun i s v hs hv => by obtain ⟨x, hx, hxy⟩ := (leTs_get h).2 i s hs; exact hxy _ _ _ _ _ _ (hr i x v hx hv)
theorem holds_res {P : Program} {f : Nat} {X : Type} {args : X → List SV} {pre : X → Prop} {res res' : X → SV} {obs : X → List Ob} (h : Holds P f ⟨X, args, pre, res, obs⟩) (hr : ∀ x, pre x → leT (res x) (res' x)) : Holds P f ⟨X, args, pre, res', obs⟩ :=
 fun x F w vs hx hF hrep => (h x F w vs hx hF hrep).mono fun _ _ ⟨v, ι, h1, h2, h3, h4, h5⟩ => ⟨v, ι, h1, h2, h3, hr x hx _ _ _ _ _ _ h4, h5⟩
theorem leT_bk {es : List (List CV)} {b : Bk} (h : leRs es (b.ps.map encP)) : leT (.agg [L 5 es, L 4 (b.po.map encO), L 8 (b.rs.map encC)]) (aB b) :=
 leT_agg ⟨leT_c (leD_rows h fun e he => by obtain ⟨p, _, rfl⟩ := List.mem_map.1 he; rfl), leT_refl _, leT_refl _, trivial⟩ (by intro s hs; simp at hs; rcases hs with rfl | rfl | rfl <;> rfl)
def beginE (b : Bk) (to : Int) : Int := if 64 ≤ b.ps.length then 9 else if to ≤ endOf b.ps ∨ 20000000 < to then 11 else 0
def newP (b : Bk) (to : Int) : Per := ⟨b.ps.length + 1, endOf b.ps, to, false, []⟩
def beginB (b : Bk) (to : Int) : Bk := if beginE b to = 0 then ⟨b.ps ++ [newP b to], b.po, b.rs⟩ else bk0
def rawN (b : Bk) (to : Int) : List CV := [.int .i64 (b.ps.length + 1), .int .i64 (endOf b.ps), .int .i64 to, .bool false, .nil]
def begX (b : Bk) (to : Int) : SV := if beginE b to = 0 then .tup [.agg [L 5 (b.ps.map encP ++ [rawN b to]), L 4 (b.po.map encO), L 8 (b.rs.map encC)], I 0] else .tup [aB bk0, I (beginE b to)]
theorem beg_le (b : Bk) (to : Int) : leT (begX b to) (.tup [aB (beginB b to), I (beginE b to)]) := by
 unfold begX beginB
 by_cases h : beginE b to = 0
 · rw [if_pos h, if_pos h, h]
   refine leT_tup ⟨leT_bk (b := ⟨b.ps ++ [newP b to], b.po, b.rs⟩) ?_, leT_refl _, trivial⟩
   rw [List.map_append]
   exact leRs_app (leRs_refl _) ⟨⟨.same _, .same _, .same _, .same _, .nil 2, trivial⟩, trivial⟩
 · rw [if_neg h, if_neg h]
   exact leT_refl _
def beginXIr : IFn := ⟨40, [.cell 4 3 true, .tmp 5], (zq [ zo 2 .box [0], zo 4 (.alloc [.nil, .nil, .nil]) [], zl 5 .mov [zi 0]] (.seq (zq [ zo 8 (.faddr 0) [2], zo 9 (.load 1 false) [8], zo 10 .len [9], zl 11 (.cmp .geq) [.tmp 10, zi 64]] (.cond (.tmp 11) (zq [ zo 12 (.build [.nil, .nil, .nil] []) [], zn (.store 3) [4, 12], zl 5 .mov [zi 9]] .ret) .skip)) (zq [ zo 13 (.faddr 0) [2], zo 14 (.load 1 false) [13], zo 15 (.call 33) [14], zm 6 15] (.seq (zq [ zm 16 1, zm 17 6, zo 18 (.cmp .leq) [16, 17], zm 19 18, zw 20 1 19 false, zh 21 (.cmp .gtr) [.tmp 20, zi 20000000] 19 false, zl 22 .pick [.tmp 19, zv, .tmp 21]]
 (.cond (.tmp 22) (zq [ zo 23 (.build [.nil, .nil, .nil] []) [], zn (.store 3) [4, 23], zl 5 .mov [zi 11]] .ret) .skip)) (zq [ zo 24 (.load 3 true) [2], zo 25 (.callo 34) [24], zo 7 (.alloc [.nil, .nil, .nil]) [], zn (.store 3) [7, 25]] (zq [ zo 26 (.faddr 0) [7], zo 27 (.load 1 false) [26], zo 28 (.faddr 0) [2], zo 29 (.load 1 false) [28], zo 30 .len [29], zl 31 (.bin .add .i64 false) [.tmp 30, zi 1], zm 32 6, zm 33 1, zo 34 (.build [.int .i64 0, .int .i64 0] [(0, 1), (1, 1)]) [32, 33], zo 35 (.build [.int .i64 0, .int .i64 0, .int .i64 0, .bool false, .nil] [(0, 1), (1, 2)]) [31, 34], zo 36
 (.buildSl 89 5) [35], zo 37 (.append 89 5 56) [27, 36], zo 38 (.faddr 0) [7], zn (.store 1) [38, 37]] (zq [ zo 39 (.load 3 true) [7], zn (.store 3) [4, 39], zl 5 .mov [zi 0]] .ret)))))))⟩
theorem beginXLow : lowF Tryz.prog { gives := [25] } Tryz.f13 = some beginXIr := by kernel_rfl
def beginXS : Spec := spec (Bk × Int) (fun p => [aB p.1, I p.2]) (fun p => smB p.1) (fun p => begX p.1 p.2)
set_option maxHeartbeats 1000000 in
theorem beginXV : fnV Tryz.prog beginXIr beginXS := by
 intro ⟨(b : Bk), (to : Int)⟩ hb
 replace hb : smB b := hb
 obtain ⟨⟨c1, c2, c3⟩, c4⟩ : (b.ps.length ≤ 1000000 ∧ b.po.length ≤ 1000000 ∧ b.rs.length ≤ 1000000) ∧ ∀ p ∈ b.ps, p.sh.length ≤ 1000000 := hb
 have hb : smB b := ⟨⟨c1, c2, c3⟩, c4⟩
 have hlp : (b.ps.map encP).length = b.ps.length := List.length_map ..
 have hlo : (b.po.map encO).length = b.po.length := List.length_map ..
 have hlr : (b.rs.map encC).length = b.rs.length := List.length_map ..
 show vc _ _ _ _ ⟨argEnv 0 [aB b, I to], [], 0⟩
 have hE : beginE b to = if 64 ≤ b.ps.length then 9 else if to ≤ endOf b.ps ∨ 20000000 < to then 11 else 0 := rfl
 by_cases h1 : 64 ≤ b.ps.length
 · rw [if_pos h1] at hE
   have hX : begX b to = .tup [aB bk0, I 9] := by unfold begX; rw [hE]; rfl
   repeat' ((conv => whnf); first | (refine ⟨fun h => ?_, fun h => ?_⟩ <;> try (exfalso; first | omega | (revert h; decide) | exact h rfl | cases (show true = false from h) | cases (show false = true from h))) | fail)
   all_goals (refine ⟨[], rfl, trivial, ?_⟩; show leR _ (begX b to); rw [hX]; exact ⟨⟨rfl, rfl, rfl, trivial⟩, rfl, trivial⟩)
 rw [if_neg h1] at hE
 by_cases h2 : to ≤ endOf b.ps ∨ 20000000 < to
 · rw [if_pos h2] at hE
   have hX : begX b to = .tup [aB bk0, I 11] := by unfold begX; rw [hE]; rfl
   repeat' ((conv => whnf); first | (refine ⟨fun h => ?_, fun h => ?_⟩ <;> try (exfalso; first | omega | (revert h; decide) | exact h rfl | cases (show true = false from h) | cases (show false = true from h))) | (refine ⟨_, endp_h, b.ps, (by show b.ps.length ≤ _; omega), leVs_of_eq rfl, .inl rfl, rfl, ?_⟩; show norm (I (endOf b.ps)) _) | fail)
   all_goals (refine ⟨[], rfl, trivial, ?_⟩; show leR _ (begX b to); rw [hX]; exact ⟨⟨rfl, rfl, rfl, trivial⟩, rfl, trivial⟩)
 rw [if_neg h2] at hE
 have hX : begX b to = .tup [.agg [L 5 (b.ps.map encP ++ [rawN b to]), L 4 (b.po.map encO), L 8 (b.rs.map encC)], I 0] := by unfold begX; rw [hE]; rfl
 repeat' ((conv => whnf); first | (refine ⟨fun h => ?_, fun h => ?_⟩ <;> try (exfalso; first | omega | (revert h; decide) | exact h rfl | cases (show true = false from h) | cases (show false = true from h))) | (refine ⟨_, endp_h, b.ps, (by show b.ps.length ≤ _; omega), leVs_of_eq rfl, .inl rfl, rfl, ?_⟩; show norm (I (endOf b.ps)) _) | fail)
 conv => whnf
 dsimp only
 refine ⟨rfl, _, copyOf_h, b, hb, leVs_of_eq rfl, trivial, ?_⟩
 repeat' ((conv => whnf); (try dsimp only [setL, List.map_cons, List.map_nil, List.take, List.drop, SV.cells, constV, shift, St.new, St.put, kills, killI, Nat.reduceAdd]); first | refine ⟨⟨by omega, by omega⟩, ?_⟩ | (refine ⟨⟨by first | omega | (simp only [List.length_nil]; omega) | (simp only [List.length_cons, List.length_nil]; omega), by first | omega | (simp only [List.length_nil]; omega) | (simp only [List.length_cons, List.length_nil]; omega)⟩, ?_⟩) | fail)
 conv => whnf
 refine ⟨[], rfl, trivial, ?_⟩
 show leR _ (begX b to)
 rw [hX]
 show leR [.agg [L 5 (b.ps.map encP ++ [[.int .i64 (((b.ps.map encP).length : Int) + 1), .int .i64 (endOf b.ps), .int .i64 to, .bool false, .nil]]), L 4 (b.po.map encO), L 8 (b.rs.map encC)], I 0] _
 rw [hlp]
 exact ⟨⟨rfl, rfl, rfl, trivial⟩, rfl, trivial⟩
theorem beginX_h : Holds Tryz.prog 13 beginXS := holds_of mix Tryz.func13 beginXLow (fun _ => rfl) beginXV
theorem begin_h : Holds Tryz.prog 13 ⟨Bk × Int, fun p => [aB p.1, I p.2], fun p => smB p.1, fun p => .tup [aB (beginB p.1 p.2), I (beginE p.1 p.2)], fun _ => []⟩ := holds_res beginX_h fun p _ => beg_le p.1 p.2
def opR (r : Ride) (p : Per) : Bool := !p.cl && decide (r.time < p.to)
def idxR (l : List Per) (r : Ride) : Int := match fidx (opR r) l with
 | some i => i
 | none => -1
theorem acc_step {l : List Share} (h : accB l = true) {k : Nat} {x : Share} (hx : l[k]? = some x) : accP x ∧ ∀ y, 0 < k → l[k - 1]? = some y → y.o < x.o := by
 have h1 := fe_all (of_decide_eq_true h) k (List.getElem?_eq_some_iff.1 hx).1
 unfold accE at h1
 rw [at_of hx] at h1
 by_cases ha : accP x
 · rw [if_neg (Decidable.not_not.2 ha)] at h1
   refine ⟨ha, fun y h0 hy => ?_⟩
   rw [at_of hy] at h1
   by_cases hle : x.o ≤ y.o
   · rw [if_pos ⟨h0, hle⟩] at h1; cases h1
   · omega
 · rw [if_pos ha] at h1; cases h1
theorem acc_ok {l : List Share} (h : accB l = true) : ∀ x ∈ l, accP x := fun x hx => by
 obtain ⟨k, hk⟩ := List.mem_iff_getElem?.1 hx
 exact (acc_step h hk).1
theorem acc_lt {l : List Share} (h : accB l = true) {i : Nat} {x : Share} (hx : l[i]? = some x) : ∀ (d : Nat) (y : Share), l[i + d + 1]? = some y → x.o < y.o
 | 0, y, hy => (acc_step h hy).2 x (by omega) hx
 | d + 1, y, hy => by
   obtain ⟨z, hz⟩ := getElem_some (show i + d + 1 < l.length by have := (List.getElem?_eq_some_iff.1 hy).1; omega)
   have h1 := acc_lt h hx d z hz
   have h2 := (acc_step h hy).2 z (by omega) hz
   omega
theorem acc_inc {l : List Share} (h : accB l = true) : l.Pairwise fun a b => a.o < b.o := by
 rw [List.pairwise_iff_getElem]
 intro i j hi hj hij
 obtain ⟨d, rfl⟩ : ∃ d, j = i + d + 1 := ⟨j - i - 1, by omega⟩
 exact acc_lt h (List.getElem?_eq_getElem hi) d _ (List.getElem?_eq_getElem hj)
theorem acc_ge {l : List Share} (h : accB l = true) : ∀ (k : Nat) (x : Share), l[k]? = some x → (k : Int) + 1 ≤ x.o
 | 0, x, hx => by have := (acc_step h hx).1.1.1; omega
 | k + 1, x, hx => by
   obtain ⟨y, hy⟩ := getElem_some (show k < l.length by have := (List.getElem?_eq_some_iff.1 hx).1; omega)
   have h1 := acc_ge h k y hy
   have h2 := (acc_step h hx).2 y (by omega) hy
   omega
theorem acc_len {l : List Share} (h : accB l = true) : l.length ≤ 8 := by
 by_cases h0 : l.length = 0
 · omega
 · obtain ⟨x, hx⟩ := getElem_some (show l.length - 1 < l.length by omega)
   have h1 := acc_ge h _ x hx
   have h2 := (acc_step h hx).1.1.2
   omega
def hasO (l : List Share) (n : Int) : Bool := l.any fun x => decide (x.o = n)
theorem hasO_snoc {l : List Share} {k : Nat} {x : Share} (hx : l[k]? = some x) (n : Int) : hasO (l.take (k + 1)) n = (hasO (l.take k) n || decide (x.o = n)) := by
 unfold hasO; rw [take_snoc _ _ _ hx, List.any_append]; simp
theorem hasO_mem {l : List Share} {n : Int} : hasO l n = true ↔ ∃ x ∈ l, x.o = n := by unfold hasO; simp
def posF (due rec : List Share) (n : Int) : Int := posAt due n - posAt rec n
def posK (due rec : List Share) : List Int := opsL.filter fun n => hasO due n || hasO rec n
def posL (due rec : List Share) : List Share := (posK due rec).map fun n => ⟨n, posF due rec n⟩
theorem posAt_zero' : ∀ {l : List Share} {n : Int}, hasO l n = false → posAt l n = 0
 | [], _, _ => rfl
 | x :: r, n, h => by
   unfold hasO at h
   rw [List.any_cons, Bool.or_eq_false_iff] at h
   rw [posAt, if_neg (of_decide_eq_false h.1), posAt_zero' (l := r) h.2]
   rfl
theorem posAt_one : ∀ {l : List Share}, (l.Pairwise fun a b => a.o < b.o) → ∀ x ∈ l, posAt l x.o = x.a
 | [], _, x, hx => by simp at hx
 | y :: r, hp, x, hx => by
   obtain ⟨h1, h2⟩ := List.pairwise_cons.1 hp
   rcases List.mem_cons.1 hx with rfl | hx
   · have h0 : posAt r x.o = 0 := posAt_zero' (by
       unfold hasO
       rw [List.any_eq_false]
       intro z hz
       have := h1 z hz
       simp
       omega)
     rw [posAt, if_pos rfl, h0]; omega
   · have := h1 x hx
     rw [posAt, if_neg (by omega), posAt_one h2 x hx]; omega
theorem posAt_bnd {l : List Share} (h : accB l = true) (n : Int) : 0 ≤ posAt l n ∧ posAt l n ≤ 137438953472 := by
 cases hh : hasO l n with
 | false => rw [posAt_zero' hh]; decide
 | true =>
   obtain ⟨x, hx, rfl⟩ := hasO_mem.1 hh
   rw [posAt_one (acc_inc h) x hx]
   have := (acc_ok h x hx).2
   omega
theorem acc_take {l : List Share} (h : accB l = true) (k : Nat) : (∀ x ∈ l.take k, accP x) ∧ (l.take k).Pairwise fun a b => a.o < b.o :=
 ⟨fun x hx => acc_ok h x (List.mem_of_mem_take hx), (acc_inc h).sublist (List.take_sublist _ _)⟩
theorem posAt_bndk {l : List Share} (h : accB l = true) (k : Nat) (n : Int) : 0 ≤ posAt (l.take k) n ∧ posAt (l.take k) n ≤ 137438953472 := by
 obtain ⟨h1, h2⟩ := acc_take h k
 cases hh : hasO (l.take k) n with
 | false => rw [posAt_zero' hh]; decide
 | true =>
   obtain ⟨x, hx, rfl⟩ := hasO_mem.1 hh
   rw [posAt_one h2 x hx]
   have := (h1 x hx).2
   omega
theorem sumA_bndk {l : List Share} (h : ∀ x ∈ l, accP x) : ∀ k : Nat, k ≤ l.length → 0 ≤ sumA (l.take k) ∧ sumA (l.take k) ≤ 137438953472 * (k : Int)
 | 0, _ => by simp [sumA, amt]
 | k + 1, hk => by
   obtain ⟨x, hx⟩ := getElem_some (show k < l.length by omega)
   have := sumA_bndk h k (by omega)
   have := (h x (List.mem_of_getElem? hx)).2
   rw [sumA_snoc hx]
   omega
def kvI (f : Int → Int) (ks : List Int) : List (List Int × List CV) := ks.map fun o => ([o], [CV.int .i64 (f o)])
theorem findI_in {f : Int → Int} {o : Int} : ∀ {ks : List Int}, o ∈ ks → findKV [o] (kvI f ks) = some [CV.int .i64 (f o)]
 | [], h => by simp at h
 | y :: r, h => by
   rw [kvI, List.map_cons, findKV]
   by_cases e : o = y
   · rw [if_pos (by rw [e]), e]
   · rw [if_neg (by intro h; simp at h; exact e h)]
     exact findI_in (by rcases List.mem_cons.1 h with h | h; exact absurd h e; exact h)
theorem findI_out {f : Int → Int} {o : Int} : ∀ {ks : List Int}, o ∉ ks → findKV [o] (kvI f ks) = none
 | [], _ => rfl
 | y :: r, h => by
   rw [kvI, List.map_cons, findKV, if_neg (by intro e; simp at e; exact h (by simp [e]))]
   exact findI_out fun e => h (by simp [e])
theorem lookI {f : Int → Int} {ks : List Int} {o : Int} (h0 : o ∉ ks → f o = 0) {K : SV → Prop} (hK : K (.c (.int .i64 (f o)))) : (∀ l, findKV [o] (kvI f ks) = some l → gotV false false l true K) ∧ (findKV [o] (kvI f ks) = none → gotV false false [.int .i64 0] false K) := by
 by_cases h : o ∈ ks
 · refine ⟨fun l hl => ?_, fun e => by rw [findI_in h] at e; cases e⟩
   rw [findI_in h] at hl; cases hl; exact hK
 · refine ⟨fun l hl => (by rw [findI_out h] at hl; cases hl), fun _ => ?_⟩
   rw [h0 h] at hK; exact hK
theorem setI {f g : Int → Int} {o v : Int} (hg : ∀ z, g z = if z = o then v else f z) : ∀ {ks : List Int}, ks.Nodup → ∃ ks', setKV [o] [CV.int .i64 v] (kvI f ks) = kvI g ks' ∧ ks'.Nodup ∧ (∀ z, z ∈ ks' ↔ z ∈ ks ∨ z = o) ∧ ks'.length ≤ ks.length + 1
 | [], _ => ⟨[o], by simp [kvI, setKV, hg], by simp, fun z => by simp, by simp⟩
 | y :: r, hn => by
   obtain ⟨h1, h2⟩ := List.nodup_cons.1 hn
   by_cases e : o = y
   · subst e
     refine ⟨o :: r, ?_, hn, fun z => ?_, by simp⟩
     · rw [kvI, List.map_cons, setKV, if_pos rfl, kvI, List.map_cons]
       have e1 : g o = v := by rw [hg, if_pos rfl]
       rw [e1]
       congr 1
       exact List.map_congr_left fun z hz => by rw [hg, if_neg (by rintro rfl; exact h1 hz)]
     · simp only [List.mem_cons]
       constructor
       · exact .inl
       · rintro (h | rfl)
         · exact h
         · exact .inl rfl
   · obtain ⟨ks', q1, q2, q3, q4⟩ := setI hg h2
     refine ⟨y :: ks', ?_, List.nodup_cons.2 ⟨fun hy => ?_, q2⟩, fun z => ?_, by simp only [List.length_cons]; omega⟩
     · rw [kvI, List.map_cons, setKV, if_neg (by intro h; simp at h; exact e h)]
       rw [kvI] at q1
       rw [q1, kvI, kvI, List.map_cons, hg y, if_neg (fun h => e h.symm)]
     · rcases (q3 y).1 hy with h | h
       · exact h1 h
       · exact e h.symm
     · simp only [List.mem_cons, q3]
       constructor
       · rintro (h | h | h) <;> simp [h]
       · rintro ((h | h) | h) <;> simp [h]
theorem lt_uniq {a b : List Int} (ha : a.Pairwise (· < ·)) (hb : b.Pairwise (· < ·)) (h : ∀ z, z ∈ a ↔ z ∈ b) : a = b := by
 have na : a.Nodup := ha.imp fun h => by omega
 have nb : b.Nodup := hb.imp fun h => by omega
 exact List.Perm.eq_of_pairwise (fun x y _ _ h1 h2 => by omega) ha hb ((List.perm_ext_iff_of_nodup na nb).2 h)
theorem posK_sorted {due rec : List Share} (h1 : accB due = true) (h2 : accB rec = true) {ks : List Int} (hn : ks.Nodup) (hm : ∀ z, z ∈ ks ↔ hasO due z = true ∨ hasO rec z = true) : posK due rec = ks.mergeSort Go.leI := by
 have hp := List.mergeSort_perm ks Go.leI
 have hs : (ks.mergeSort Go.leI).Pairwise fun x y => Go.leI x y = true := List.pairwise_mergeSort
   (fun a b c h1 h2 => by simp only [Go.leI, decide_eq_true_eq] at *; omega)
   (fun a b => by simp only [Go.leI, Bool.or_eq_true, decide_eq_true_eq]; omega) _
 have hnd : (ks.mergeSort Go.leI).Nodup := hp.nodup_iff.2 hn
 have hops : opsL.Pairwise (· < ·) := by decide
 refine lt_uniq (hops.sublist List.filter_sublist) ((hs.and hnd).imp fun {a b} h => ?_) fun z => ?_
 · have h1 := h.1
   have h2 := h.2
   simp only [Go.leI, decide_eq_true_eq] at h1
   omega
 · rw [hp.mem_iff, hm]
   unfold posK
   rw [List.mem_filter, Bool.or_eq_true]
   refine ⟨fun h => h.2, fun h => ⟨mem_ops.2 ?_, h⟩⟩
   rcases h with h | h
   · obtain ⟨x, hx, rfl⟩ := hasO_mem.1 h; exact (acc_ok h1 x hx).1
   · obtain ⟨x, hx, rfl⟩ := hasO_mem.1 h; exact (acc_ok h2 x hx).1
theorem posK_len (due rec : List Share) : (posK due rec).length ≤ 8 := List.length_filter_le _ opsL
theorem posK_take (due rec : List Share) {k : Nat} {n : Int} (h : (posK due rec)[k]? = some n) : ((posK due rec).take (k + 1)).map (fun n => encS ⟨n, posF due rec n⟩) = ((posK due rec).take k).map (fun n => encS ⟨n, posF due rec n⟩) ++ [encS ⟨n, posF due rec n⟩] := by rw [take_snoc _ _ _ h, List.map_append]; rfl
end Go.Proofs.YtjpdaapjnpdiiaaGreat.P
