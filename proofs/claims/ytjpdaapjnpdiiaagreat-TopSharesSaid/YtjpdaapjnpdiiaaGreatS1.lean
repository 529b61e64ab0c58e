/- A part of the proof. -/
import Derived.Test.YtjpdaapjnpdiiaaGreatE3
import Derived.Test.YtjpdaapjnpdiiaaGreatChecked
namespace Go.Proofs.YtjpdaapjnpdiiaaGreat
open Go.RowKit
def bef (f : Int → Int) (x y : Int) : Prop := f y < f x ∨ (f x = f y ∧ x < y)
instance (f : Int → Int) (x y : Int) : Decidable (bef f x y) := by unfold bef; infer_instance
def stb (f : Int → Int) (x y : Int) : Prop := f x = f y → x < y
theorem bef_trans {f : Int → Int} {x y z : Int} (h : bef f x y) (k : bef f y z) : bef f x z := by unfold bef at *; omega
theorem bef_asymm {f : Int → Int} {x y : Int} (h : bef f x y) (k : bef f y x) : x = y := by unfold bef at *; omega
theorem bef_total {f : Int → Int} {x y : Int} (h : x ≠ y) : bef f x y ∨ bef f y x := by unfold bef; omega
theorem bef_stb {f : Int → Int} {x y : Int} (h : bef f x y) : stb f x y := by unfold bef at h; unfold stb; omega
theorem bef_of {f : Int → Int} {x y : Int} (h : stb f x y) (k : f y ≤ f x) : bef f x y := by
 unfold stb at h; unfold bef
 by_cases e : f x = f y
 · exact .inr ⟨e, h e⟩
 · exact .inl (by omega)
def SortedOf (f : Int → Int) (A R : List Int) : Prop := R.Perm A ∧ R.Pairwise (bef f)
theorem sorted_uniq {f : Int → Int} {A R T : List Int} (h : SortedOf f A R) (k : SortedOf f A T) : R = T :=
 List.Perm.eq_of_pairwise (fun _ _ _ _ => bef_asymm) h.2 k.2 (h.1.trans k.1.symm)
theorem ins_ex {f : Int → Int} (x : Int) : ∀ (R : List Int), R.Pairwise (bef f) → x ∉ R → ∃ T : List Int, T.Perm (x :: R) ∧ T.Pairwise (bef f)
 | [], _, _ => ⟨[x], .refl _, List.pairwise_singleton _ _⟩
 | y :: r, h, hx => by
   obtain ⟨h1, h2⟩ := List.pairwise_cons.1 h
   have hne : x ≠ y := fun e => hx (by simp [e])
   rcases bef_total (f := f) hne with hb | hb
   · refine ⟨x :: y :: r, .refl _, List.pairwise_cons.2 ⟨fun z hz => ?_, h⟩⟩
     rcases List.mem_cons.1 hz with rfl | hz
     · exact hb
     · exact bef_trans hb (h1 z hz)
   · obtain ⟨T, hT, hp⟩ := ins_ex x r h2 (fun e => hx (by simp [e]))
     refine ⟨y :: T, (hT.cons y).trans (.swap _ _ _), List.pairwise_cons.2 ⟨fun z hz => ?_, hp⟩⟩
     rcases List.mem_cons.1 (hT.mem_iff.1 hz) with rfl | hz
     · exact hb
     · exact h1 z hz
theorem sorted_ex {f : Int → Int} : ∀ (A : List Int), A.Nodup → ∃ R, SortedOf f A R
 | [], _ => ⟨[], .refl _, .nil⟩
 | x :: r, h => by
   obtain ⟨h1, h2⟩ := List.nodup_cons.1 h
   obtain ⟨R, hR, hp⟩ := sorted_ex (f := f) r h2
   obtain ⟨T, hT, hq⟩ := ins_ex (f := f) x R hp (fun e => h1 (hR.mem_iff.1 e))
   exact ⟨T, hT.trans (hR.cons x), hq⟩
theorem stb_nodup {f : Int → Int} {A : List Int} (h : A.Pairwise (stb f)) : A.Nodup := h.imp fun {a b} k e => by
 subst e
 have : a < a := k rfl
 omega
theorem stb_ex {f : Int → Int} {A : List Int} (h : A.Pairwise (stb f)) : ∃ R, SortedOf f A R := sorted_ex A (stb_nodup h)
theorem stb_part {f : Int → Int} {P A R S : List Int} (h : (P ++ (A ++ S)).Pairwise (stb f)) (k : SortedOf f A R) : (P ++ (R ++ S)).Pairwise (stb f) := by
 rw [List.pairwise_append, List.pairwise_append] at h ⊢
 obtain ⟨h1, ⟨h2, h3, h4⟩, h5⟩ := h
 refine ⟨h1, ⟨k.2.imp bef_stb, h3, fun a ha b hb => h4 a (k.1.mem_iff.1 ha) b hb⟩, fun a ha b hb => ?_⟩
 refine h5 a ha b ?_
 rcases List.mem_append.1 hb with hb | hb
 · exact List.mem_append.2 (.inl (k.1.mem_iff.1 hb))
 · exact List.mem_append.2 (.inr hb)
def Blk (f : Int → Int) (k : Nat) (l : List Int) : Prop := ∀ p q x y, p < q → p / k = q / k → l[p]? = some x → l[q]? = some y → bef f x y
theorem blk_one {f : Int → Int} {k : Nat} {l : List Int} (h : Blk f k l) (hl : l.length ≤ k) : l.Pairwise (bef f) := by
 rw [List.pairwise_iff_getElem]
 intro i j hi hj hij
 refine h i j _ _ hij ?_ (List.getElem?_eq_getElem hi) (List.getElem?_eq_getElem hj)
 rw [Nat.div_eq_of_lt (by omega), Nat.div_eq_of_lt (by omega)]
theorem blk_of {f : Int → Int} {k : Nat} {l : List Int} (h : l.Pairwise (bef f)) : Blk f k l := by
 intro p q x y hpq _ hx hy
 obtain ⟨h1, rfl⟩ := List.getElem?_eq_some_iff.1 hx
 obtain ⟨h2, rfl⟩ := List.getElem?_eq_some_iff.1 hy
 exact List.pairwise_iff_getElem.1 h p q h1 h2 hpq
theorem blk_app {f : Int → Int} {k t : Nat} {D R : List Int} (hk : 0 < k) (hd : D.length = t * k) : Blk f k (D ++ R) ↔ Blk f k D ∧ Blk f k R := by
 constructor
 · intro h
   refine ⟨fun p q x y hpq he hx hy => ?_, fun p q x y hpq he hx hy => ?_⟩
   · have h1 := (List.getElem?_eq_some_iff.1 hx).1
     have h2 := (List.getElem?_eq_some_iff.1 hy).1
     exact h p q x y hpq he (by rw [List.getElem?_append_left h1]; exact hx) (by rw [List.getElem?_append_left h2]; exact hy)
   · refine h (D.length + p) (D.length + q) x y (by omega) ?_ (by rw [List.getElem?_append_right (by omega)]; rw [Nat.add_sub_cancel_left]; exact hx) (by rw [List.getElem?_append_right (by omega)]; rw [Nat.add_sub_cancel_left]; exact hy)
     rw [hd, Nat.add_comm _ p, Nat.add_comm _ q, Nat.add_mul_div_right _ _ hk, Nat.add_mul_div_right _ _ hk, he]
 · rintro ⟨h1, h2⟩ p q x y hpq he hx hy
   by_cases hp : p < D.length
   · by_cases hq : q < D.length
     · rw [List.getElem?_append_left hp] at hx
       rw [List.getElem?_append_left hq] at hy
       exact h1 p q x y hpq he hx hy
     · exfalso
       have e1 : p / k < t := (Nat.div_lt_iff_lt_mul hk).2 (by omega)
       have e2 : t ≤ q / k := (Nat.le_div_iff_mul_le hk).2 (by omega)
       omega
   · rw [List.getElem?_append_right (by omega)] at hx
     rw [List.getElem?_append_right (by omega)] at hy
     refine h2 (p - D.length) (q - D.length) x y (by omega) ?_ hx hy
     rw [show p = (p - D.length) + t * k by omega, show q = (q - D.length) + t * k by omega, Nat.add_mul_div_right _ _ hk, Nat.add_mul_div_right _ _ hk] at he
     omega
theorem blk_take {f : Int → Int} {k : Nat} {R : List Int} (h : Blk f k R) : (R.take k).Pairwise (bef f) := by
 refine blk_one (k := k) ?_ (by rw [List.length_take]; omega)
 intro p q x y hpq he hx hy
 rw [List.getElem?_take] at hx hy
 split at hx
 · split at hy
   · exact h p q x y hpq he hx hy
   · cases hy
 · cases hx
theorem blk_drop {f : Int → Int} {k : Nat} {R : List Int} (hk : 0 < k) (h : Blk f k R) : Blk f k (R.drop k) := by
 by_cases hl : k ≤ R.length
 · have := (blk_app (f := f) (t := 1) (D := R.take k) (R := R.drop k) hk (by rw [List.length_take]; omega)).1 (by rw [List.take_append_drop]; exact h)
   exact this.2
 · rw [List.drop_eq_nil_of_le (by omega)]
   intro p q x y _ _ hx; simp at hx
def Ahead (f : Int → Int) (A B : List Int) : Prop := ∀ x ∈ A, ∀ y ∈ B, bef f x y
theorem sorted_join {f : Int → Int} {A B A' B' R : List Int} (h : SortedOf f (A ++ B) R) (hA : SortedOf f A A') (hB : SortedOf f B B') (hab : Ahead f A B) : A' ++ B' = R := by
 refine sorted_uniq ⟨hA.1.append hB.1, ?_⟩ h
 rw [List.pairwise_append]
 exact ⟨hA.2, hB.2, fun x hx y hy => hab x (hA.1.mem_iff.1 hx) y (hB.1.mem_iff.1 hy)⟩
theorem sorted_self {f : Int → Int} {A R : List Int} (h : A.Pairwise (bef f)) (k : SortedOf f A R) : A = R := sorted_uniq ⟨.refl _, h⟩ k
theorem get_mid (U V : List Int) (x : Int) : (U ++ x :: V)[U.length]? = some x := by simp
theorem get_mid2 (U V : List Int) (x y : Int) : (U ++ x :: y :: V)[U.length + 1]? = some y := by simp
theorem swap_mid (U V : List Int) (x y : Int) : ((U ++ x :: y :: V).set (U.length + 1) x).set U.length y = U ++ y :: x :: V := by simp
theorem swap_mid' (U V : List Int) (x y : Int) : ((U ++ x :: y :: V).set U.length y).set (U.length + 1) x = U ++ y :: x :: V := by simp
theorem swap_far (U M V : List Int) (x y : Int) : ((U ++ x :: (M ++ y :: V)).set U.length y).set (U.length + 1 + M.length) x = U ++ y :: (M ++ x :: V) := by
 rw [List.set_append_right (s := U) _ _ (Nat.le_refl _), Nat.sub_self, List.set_cons_zero, List.set_append_right (s := U) _ _ (by omega)]
 rw [show U.length + 1 + M.length - U.length = M.length + 1 by omega, List.set_cons_succ, List.set_append_right (s := M) _ _ (Nat.le_refl _), Nat.sub_self, List.set_cons_zero]
theorem get_far (U M V : List Int) (x y : Int) : (U ++ x :: (M ++ y :: V))[U.length + 1 + M.length]? = some y := by
 rw [List.getElem?_append_right (by omega), show U.length + 1 + M.length - U.length = M.length + 1 by omega, List.getElem?_cons_succ, List.getElem?_append_right (Nat.le_refl _), Nat.sub_self, List.getElem?_cons_zero]
theorem last_of {l : List Int} (h : 0 < l.length) : ∃ r x, l = r ++ [x] := by
 refine ⟨l.dropLast, l.getLast (by intro e; subst e; simp at h), ?_⟩
 exact (List.dropLast_concat_getLast _).symm
theorem first_of {l : List Int} (h : 0 < l.length) : ∃ x r, l = x :: r := by
 cases l with
 | nil => simp at h
 | cons x r => exact ⟨x, r, rfl⟩
theorem mix : Tryz.prog.follows .mixedOrders = true := by kernel_rfl
abbrev e1 (n : Int) : List CV := [.int .i64 n]
def isNaNIr : IFn := ⟨6, [.tmp 2], (zq [ zl 2 .mov [zf]] (zq [ zm 3 0, zm 4 0, zo 5 (.cmp .neq) [3, 4], zm 2 5] .ret))⟩
theorem isNaNLow : lowF Tryz.prog {} Tryz.f80 = some isNaNIr := by kernel_rfl
def isNaNS : Spec := spec Int (fun n => [I n]) (fun _ => True) (fun _ => B false)
theorem isNaNV : fnV Tryz.prog isNaNIr isNaNS := by
 intro (x : Int) hx
 repeat' ((conv => whnf); first | (refine ⟨fun h => ?_, fun h => ?_⟩ <;> try (exfalso; omega)) | refine ⟨[], rfl, trivial, congrArg CV.bool ?_⟩ | refine ⟨[], rfl, trivial, congrArg (CV.int .i64) ?_⟩ | refine ⟨⟨by omega, by omega⟩, ?_⟩ | refine ⟨by omega, ?_⟩ | fail)
 rfl
theorem isNaN_h : Holds Tryz.prog 80 isNaNS := holds_of mix Tryz.func80 isNaNLow (fun _ => rfl) isNaNV
def compareIr : IFn := ⟨20, [.tmp 4], (zq [ zl 4 .mov [zi 0]] (zq [ zm 7 0, zo 8 (.call 80) [7], zm 5 8] (zq [ zm 9 1, zo 10 (.call 80) [9], zm 6 10] (.seq (zq [ zm 11 5] (.cond (.tmp 11) (.seq (zq [ zm 12 6] (.cond (.tmp 12) (zq [ zl 4 .mov [zi 0]] .ret) .skip)) (zq [ zl 4 .mov [zi (-1)]] .ret)) .skip)) (.seq (zq [ zm 13 6] (.cond (.tmp 13) (zq [ zl 4 .mov [zi 1]] .ret) .skip)) (.seq (zq [ zm 14 0, zm 15 1, zo 16 (.cmp .lss) [14, 15]] (.cond (.tmp 16) (zq [ zl 4 .mov [zi (-1)]] .ret) .skip)) (.seq (zq [ zm 17 0, zm 18 1, zo 19 (.cmp .gtr) [17, 18]] (.cond (.tmp 19) (zq [ zl 4 .mov [zi 1]] .ret) .skip)) (zq [ zl 4
 .mov [zi 0]] .ret))))))))⟩
theorem compareLow : lowF Tryz.prog {} Tryz.f50 = some compareIr := by kernel_rfl
def compareS : Spec := spec (Int × Int) (fun p => [I p.1, I p.2]) (fun _ => True) (fun p => I (cmpI p.1 p.2))
theorem compareV : fnV Tryz.prog compareIr compareS := by
 intro ⟨x, y⟩ hx
 repeat' ((conv => whnf); first | (refine ⟨fun h => ?_, fun h => ?_⟩ <;> try (exfalso; omega)) | refine ⟨_, isNaN_h, _, trivial, leVs_of_eq rfl, .inr rfl, rfl, ?_⟩ | refine ⟨[], rfl, trivial, congrArg CV.bool ?_⟩ | refine ⟨[], rfl, trivial, congrArg (CV.int .i64) ?_⟩ | refine ⟨⟨by omega, by omega⟩, ?_⟩ | refine ⟨by omega, ?_⟩ | fail)
 all_goals (unfold cmpI; (repeat split) <;> first | rfl | omega | contradiction)
theorem compare_h : Holds Tryz.prog 50 compareS := holds_of mix Tryz.func50 compareLow (fun _ => rfl) compareV
def keyR (rs : List Int) (i : Int) : Int := rs.getD i.toNat 0
def lessIr : IFn := ⟨15, [.tmp 5], (zq [ zl 5 .mov [zi 0]] (.seq (.ops [ zo 6 (.load 1 false) [2], zm 7 1, zo 8 (.idx 1) [6, 7], zo 9 (.load 1 false) [8], zo 10 (.load 1 false) [2], zm 11 0, zo 12 (.idx 1) [10, 11], zo 13 (.load 1 false) [12], zo 14 (.call 50) [9, 13], zm 5 14] true) .ret))⟩
theorem lessLow : lowF Tryz.prog {} Tryz.f49 = some lessIr := by kernel_rfl
def lessS : Spec := spec (List Int × Int × Int) (fun p => [I p.2.1, I p.2.2, .rp [.sl 1 (p.1.map e1)]]) (fun p => ((0 ≤ p.2.1 ∧ p.2.1 < p.1.length) ∧ 0 ≤ p.2.2 ∧ p.2.2 < p.1.length) ∧ p.1.length ≤ 1000000) (fun p => I (cmpI (keyR p.1 p.2.2) (keyR p.1 p.2.1)))
theorem lessV : fnV Tryz.prog lessIr lessS := by
 intro ⟨(rs : List Int), (i : Int), (k : Int)⟩ hx
 obtain ⟨⟨⟨i1, i2⟩, k1, k2⟩, hl⟩ : ((0 ≤ i ∧ i < rs.length) ∧ 0 ≤ k ∧ k < rs.length) ∧ rs.length ≤ 1000000 := hx
 obtain ⟨i, rfl⟩ := Int.eq_ofNat_of_zero_le i1
 obtain ⟨k, rfl⟩ := Int.eq_ofNat_of_zero_le k1
 obtain ⟨x, hx⟩ := getElem_some (show i < rs.length by omega)
 obtain ⟨y, hy⟩ := getElem_some (show k < rs.length by omega)
 have e1' : keyR rs i = x := by simp [keyR, List.getD, hx]
 have e2' : keyR rs k = y := by simp [keyR, List.getD, hy]
 show vc _ _ _ _ ⟨argEnv 0 [I i, I k, .rp [.sl 1 (rs.map e1)]], [], 0⟩
 conv => whnf
 refine idx_at hy ?_
 conv => whnf
 refine idx_at hx ?_
 conv => whnf
 refine ⟨_, compare_h, (y, x), trivial, leVs_of_eq rfl, .inr rfl, rfl, ?_⟩
 show norm (I (cmpI y x)) _
 conv => whnf
 exact ⟨[], rfl, trivial, congrArg (CV.int .i64) (by show cmpI y x = cmpI (keyR rs k) (keyR rs i); rw [e1', e2'])⟩
theorem less_h : Holds Tryz.prog 49 lessS := holds_of mix Tryz.func49 lessLow (fun _ => rfl) lessV
structure SwX where
 rs : List Int
 P : List Int
 A : List Int
 M : List Int
 B : List Int
 S : List Int
def swapS : GSpec := ⟨SwX, fun x => [.row 3 1 ((x.P ++ (x.A ++ (x.M ++ (x.B ++ x.S)))).map e1)], fun x => [.osl 0, I x.P.length, I (x.P.length + x.A.length + x.M.length), I x.A.length, .fn 49 [.rp [.sl 1 (x.rs.map e1)]]],
 fun x => x.B.length = x.A.length ∧ (x.P ++ (x.A ++ (x.M ++ (x.B ++ x.S)))).length ≤ 1000000, fun _ => .tup [], fun x => [.row 3 1 ((x.P ++ (x.B ++ (x.M ++ (x.A ++ x.S)))).map e1)], fun _ => []⟩
theorem map_set1 (l : List Int) (i : Nat) (x : Int) : (l.map e1).set i [.int .i64 x] = (l.set i x).map e1 := by rw [List.map_set]
theorem get_e1 {l : List Int} {i : Nat} {x : Int} (h : l[i]? = some x) : (l.map e1)[i]? = some [.int .i64 x] := by rw [List.getElem?_map, h]; rfl
def swapIr : IFn := ⟨38, [], (zq [ zl 10 .mov [zi 0]] (.block 0 (.loop (.seq (zq [ zm 11 10, zm 12 3, zo 13 (.cmp .lss) [11, 12]] (.cond (.tmp 13) .skip (.exit 0))) (.seq (.block 1 (.ops [ zm 16 0, zm 17 1, zm 18 10, zo 19 (.bin .add .i64 false) [17, 18], zm 20 0, zm 21 2, zm 22 10, zo 23 (.bin .add .i64 false) [21, 22], zm 24 0, zm 25 2, zm 26 10, zo 27 (.bin .add .i64 false) [25, 26], zo 28 (.idx 1) [24, 27], zo 29 (.load 1 false) [28], zm 30 0, zm 31 1, zm 32 10, zo 33 (.bin .add .i64 false) [31, 32], zo 34 (.idx 1) [30, 33], zo 35 (.load 1 false) [34], zo 36 (.idx 1) [16, 19], zn (.store 1) [36, 29], zo 37
 (.idx 1) [20, 23], zn (.store 1) [37, 35]] true)) (zp [ zm 14 10, zl 15 (.bin .add .i64 false) [.tmp 14, zi 1], zm 10 15]))))))⟩
theorem swapLow : lowF Tryz.prog {} Tryz.f131 = some swapIr := by kernel_rfl
theorem swapV : fnG Tryz.prog swapIr swapS := by
 intro ⟨rs, P, A, M, B, S⟩ hx
 obtain ⟨hBA, hlen⟩ : B.length = A.length ∧ (P ++ (A ++ (M ++ (B ++ S)))).length ≤ 1000000 := hx
 simp only [List.length_append] at hlen
 show vc _ _ _ _ ⟨argEnv 0 [.osl 0, I P.length, I (P.length + A.length + M.length), I A.length, .fn 49 [.rp [.sl 1 (rs.map e1)]]], idxFrom 0 [.row 3 1 ((P ++ (A ++ (M ++ (B ++ S)))).map e1)], 1⟩
 conv => whnf
 refine ⟨Nat × (List (List CV)), fun xq => ⟨[(0, .osl 0), (1, I P.length), (2, I (P.length + A.length + M.length)), (3, I A.length), (10, I xq.1)], [(0, .row 3 1 xq.2)], 1⟩, fun xq => ∃ A1 A2 B1 B2, (A = A1 ++ A2 ∧ B = B1 ++ B2) ∧ (A1.length = xq.1 ∧ B1.length = xq.1) ∧ xq.2 = (P ++ (B1 ++ (A2 ++ (M ++ (A1 ++ (B2 ++ S)))))).map e1, fun xq => A.length - xq.1, ⟨(0, _), ?_, [], ⟨⟨rfl, rfl⟩, ⟨rfl, rfl⟩, ⟨rfl, rfl⟩, ⟨rfl, rfl⟩, ⟨rfl, rfl⟩, trivial⟩, ⟨⟨rfl, rfl, rfl⟩, trivial⟩, rfl, rfl, rfl⟩, ?_⟩
 · (try dsimp only); exact ⟨[], A, [], B, ⟨rfl, rfl⟩, ⟨rfl, rfl⟩, rfl⟩
 rintro ⟨k, es⟩ hk
 obtain ⟨A1, A2, B1, B2, ⟨hA, hB⟩, ⟨l1, l2⟩, rfl⟩ : ∃ A1 A2 B1 B2, (A = A1 ++ A2 ∧ B = B1 ++ B2) ∧ (A1.length = k ∧ B1.length = k) ∧ es = (P ++ (B1 ++ (A2 ++ (M ++ (A1 ++ (B2 ++ S)))))).map e1 := hk
 (try dsimp only)
 have hAl : A.length = A1.length + A2.length := by rw [hA, List.length_append]
 have hBl : B.length = B1.length + B2.length := by rw [hB, List.length_append]
 by_cases hk : k < A.length
 · obtain ⟨x, A3, rfl⟩ := first_of (l := A2) (by omega)
   obtain ⟨y, B3, rfl⟩ := first_of (l := B2) (by omega)
   simp only [List.length_cons] at hAl hBl
   have hes : P ++ (B1 ++ (x :: A3 ++ (M ++ (A1 ++ (y :: B3 ++ S))))) = (P ++ B1) ++ x :: ((A3 ++ (M ++ A1)) ++ y :: (B3 ++ S)) := by simp
   have hes' : P ++ ((B1 ++ [y]) ++ (A3 ++ (M ++ ((A1 ++ [x]) ++ (B3 ++ S))))) = (P ++ B1) ++ y :: ((A3 ++ (M ++ A1)) ++ x :: (B3 ++ S)) := by simp
   rw [hes]
   have i1 : ((P.length : Int) + (k : Int)).toNat = (P ++ B1).length := by rw [List.length_append]; omega
   have i2 : ((P.length : Int) + A.length + M.length + (k : Int)).toNat = (P ++ B1).length + 1 + (A3 ++ (M ++ A1)).length := by simp only [List.length_append]; omega
   have hl1 : ((((P ++ B1) ++ x :: ((A3 ++ (M ++ A1)) ++ y :: (B3 ++ S))).map e1).length : Int) = P.length + A.length + M.length + B.length + S.length := by simp only [List.length_map, List.length_append, List.length_cons]; omega
   have g1 : (((P ++ B1) ++ x :: ((A3 ++ (M ++ A1)) ++ y :: (B3 ++ S))).map e1)[((P.length : Int) + (k : Int)).toNat]? = some [.int .i64 x] := get_e1 (by rw [i1]; exact get_mid _ _ _)
   have g2 : (((P ++ B1) ++ x :: ((A3 ++ (M ++ A1)) ++ y :: (B3 ++ S))).map e1)[((P.length : Int) + A.length + M.length + (k : Int)).toNat]? = some [.int .i64 y] := get_e1 (by rw [i2]; exact get_far _ _ _ _ _)
   have g3 : ((((P ++ B1) ++ x :: ((A3 ++ (M ++ A1)) ++ y :: (B3 ++ S))).map e1).set ((P.length : Int) + (k : Int)).toNat [.int .i64 y])[((P.length : Int) + A.length + M.length + (k : Int)).toNat]? = some [.int .i64 y] := by rw [List.getElem?_set_ne (by omega)]; exact g2
   have g4 : ((((P ++ B1) ++ x :: ((A3 ++ (M ++ A1)) ++ y :: (B3 ++ S))).map e1).set ((P.length : Int) + (k : Int)).toNat [.int .i64 y]).set ((P.length : Int) + A.length + M.length + (k : Int)).toNat [.int .i64 x] = (P ++ ((B1 ++ [y]) ++ (A3 ++ (M ++ ((A1 ++ [x]) ++ (B3 ++ S)))))).map e1 := by
     rw [map_set1, map_set1, i1, i2, swap_far, hes']
   generalize (((P ++ B1) ++ x :: ((A3 ++ (M ++ A1)) ++ y :: (B3 ++ S))).map e1) = cur at *
   repeat' ((conv => whnf); first | (refine ⟨fun h => ?_, fun h => ?_⟩ <;> try (exfalso; first | omega | (revert h; decide) | exact h rfl)) | refine get_at g1 ?_ | refine get_at g2 ?_ | refine get_at g3 ?_ | (refine ⟨(k + 1, _), ⟨?_, by (try dsimp only); omega⟩, [], ⟨⟨rfl, rfl⟩, ⟨rfl, rfl⟩, ⟨rfl, rfl⟩, ⟨rfl, rfl⟩, ⟨rfl, rfl⟩, trivial⟩, ⟨⟨rfl, rfl, rfl⟩, trivial⟩, rfl, rfl, rfl⟩; (try dsimp only); exact ⟨A1 ++ [x], A3, B1 ++ [y], B3, ⟨by rw [hA]; simp, by rw [hB]; simp⟩, ⟨by rw [List.length_append, l1]; rfl, by rw [List.length_append, l2]; rfl⟩, g4⟩) | refine ⟨⟨by omega, by omega⟩, ?_⟩ | refine ⟨⟨by omega, by (rw [List.length_set]; omega)⟩, ?_⟩ | fail)
 · have hA2 : A2 = [] := List.eq_nil_of_length_eq_zero (by omega)
   have hB2 : B2 = [] := List.eq_nil_of_length_eq_zero (by omega)
   subst hA2; subst hB2
   rw [List.append_nil] at hA hB
   subst hA; subst hB
   repeat' ((conv => whnf); first | (refine ⟨fun h => ?_, fun h => ?_⟩ <;> try (exfalso; first | omega | (revert h; decide) | exact h rfl)) | fail)
   refine ⟨[], rfl, rfl, ⟨⟨?_, rfl⟩, trivial⟩, trivial⟩
   rfl
theorem swap_g : HoldsG Tryz.prog 131 swapS := holdsG_of mix Tryz.func131 swapLow (fun _ => rfl) swapV
theorem leI {a b : Int} (h : a = b) : leV (I a) (I b) := by subst h; exact leV_refl _
theorem cln1 (l : List Int) : ∀ r ∈ l.map e1, ∀ c ∈ r, c.scalar = true := by
 intro r hr c hc
 obtain ⟨x, _, rfl⟩ := List.mem_map.1 hr
 simp at hc; subst hc; rfl
structure RotX where
 rs : List Int
 P : List Int
 A : List Int
 B : List Int
 S : List Int
def rotS : GSpec := ⟨RotX, fun x => [.row 3 1 ((x.P ++ (x.A ++ (x.B ++ x.S))).map e1)], fun x => [.osl 0, I x.P.length, I (x.P.length + x.A.length), I (x.P.length + x.A.length + x.B.length), .fn 49 [.rp [.sl 1 (x.rs.map e1)]]],
 fun x => (0 < x.A.length ∧ 0 < x.B.length) ∧ (x.P ++ (x.A ++ (x.B ++ x.S))).length ≤ 1000000, fun _ => .tup [], fun x => [.row 3 1 ((x.P ++ (x.B ++ (x.A ++ x.S))).map e1)], fun _ => []⟩
def rotIr : IFn := ⟨58, [], (zq [ zm 12 2, zm 13 1, zo 14 (.bin .sub .i64 false) [12, 13], zm 10 14] (zq [ zm 15 3, zm 16 2, zo 17 (.bin .sub .i64 false) [15, 16], zm 11 17] (.seq (.block 0 (.loop (.seq (zq [ zm 18 10, zm 19 11, zo 20 (.cmp .neq) [18, 19]] (.cond (.tmp 20) .skip (.exit 0))) (.block 1 (zq [ zm 21 10, zm 22 11, zo 23 (.cmp .gtr) [21, 22]] (.cond (.tmp 23) (zq [ zm 24 0, zm 25 2, zm 26 10, zo 27 (.bin .sub .i64 false) [25, 26], zm 28 2, zm 29 11, zm 30 4, zo 31 (.callg 131) [24, 27, 28, 29, 30]] (zp [ zm 32 10, zm 33 11, zo 34 (.bin .sub .i64 false) [32, 33], zm 10 34])) (zq [ zm 35 0, zm 36 2, zm
 37 10, zo 38 (.bin .sub .i64 false) [36, 37], zm 39 2, zm 40 11, zo 41 (.bin .add .i64 false) [39, 40], zm 42 10, zo 43 (.bin .sub .i64 false) [41, 42], zm 44 10, zm 45 4, zo 46 (.callg 131) [35, 38, 43, 44, 45]] (zp [ zm 47 11, zm 48 10, zo 49 (.bin .sub .i64 false) [47, 48], zm 11 49])))))))) (zp [ zm 50 0, zm 51 2, zm 52 10, zo 53 (.bin .sub .i64 false) [51, 52], zm 54 2, zm 55 10, zm 56 4, zo 57 (.callg 131) [50, 53, 54, 55, 56]]))))⟩
theorem rotLow : lowF Tryz.prog { gvs := [31, 46, 57] } Tryz.f122 = some rotIr := by kernel_rfl
theorem rotV : fnG Tryz.prog rotIr rotS := by
 intro ⟨rs, P, A, B, S⟩ hx
 obtain ⟨⟨hA, hB⟩, hlen⟩ : (0 < A.length ∧ 0 < B.length) ∧ (P ++ (A ++ (B ++ S))).length ≤ 1000000 := hx
 simp only [List.length_append] at hlen
 show vc _ _ _ _ ⟨argEnv 0 [.osl 0, I P.length, I (P.length + A.length), I (P.length + A.length + B.length), .fn 49 [.rp [.sl 1 (rs.map e1)]]], idxFrom 0 [.row 3 1 ((P ++ (A ++ (B ++ S))).map e1)], 1⟩
 conv => whnf
 refine ⟨⟨by omega, by omega⟩, ?_⟩
 conv => whnf
 refine ⟨⟨by omega, by omega⟩, ?_⟩
 conv => whnf
 refine ⟨Int × Int × (List (List CV)), fun xq => ⟨[(0, .osl 0), (1, I P.length), (2, I (P.length + A.length)), (3, I (P.length + A.length + B.length)), (4, .fn 49 [.rp [.sl 1 (rs.map e1)]]), (10, I xq.1), (11, I xq.2.1)], [(0, .row 3 1 xq.2.2)], 1⟩, fun xq => ∃ P1 A1 B1 S1 : List Int, (((P1.length : Int) + xq.1 = P.length + A.length ∧ (A1.length : Int) = xq.1 ∧ (B1.length : Int) = xq.2.1) ∧ 0 < xq.1 ∧ 0 < xq.2.1) ∧ P ++ (B ++ (A ++ S)) = P1 ++ (B1 ++ (A1 ++ S1)) ∧ xq.2.2 = (P1 ++ (A1 ++ (B1 ++ S1))).map e1, fun xq => (xq.1 + xq.2.1).toNat, ⟨(_, _, _), ?_, [], ⟨⟨rfl, rfl⟩, ⟨rfl, rfl⟩, ⟨rfl, rfl⟩, ⟨rfl, rfl⟩, ⟨rfl, rfl⟩, ⟨rfl, rfl⟩, ⟨rfl, rfl⟩, trivial⟩, ⟨⟨rfl, rfl, rfl⟩, trivial⟩, rfl, rfl, rfl⟩, ?_⟩
 · (try dsimp only); exact ⟨P, A, B, S, ⟨⟨by omega, by omega, by omega⟩, by omega, by omega⟩, rfl, rfl⟩
 rintro ⟨i, j, es⟩ hk
 obtain ⟨P1, A1, B1, S1, ⟨⟨hi, l1, l2⟩, hi0, hj0⟩, hfin, rfl⟩ : ∃ P1 A1 B1 S1 : List Int, (((P1.length : Int) + i = P.length + A.length ∧ (A1.length : Int) = i ∧ (B1.length : Int) = j) ∧ 0 < i ∧ 0 < j) ∧ P ++ (B ++ (A ++ S)) = P1 ++ (B1 ++ (A1 ++ S1)) ∧ es = (P1 ++ (A1 ++ (B1 ++ S1))).map e1 := hk
 (try dsimp only)
 have hll := congrArg List.length hfin
 simp only [List.length_append] at hll
 rcases Int.lt_trichotomy i j with hij | hij | hij
 · -- the second part is longer
   obtain ⟨B2, B3, rfl, hb2⟩ : ∃ B2 B3 : List Int, B1 = B2 ++ B3 ∧ (B2.length : Int) = j - i := ⟨B1.take (j - i).toNat, B1.drop (j - i).toNat, (List.take_append_drop ..).symm, by rw [List.length_take]; omega⟩
   rw [List.length_append] at l2
   simp only [List.length_append] at hll
   rw [show P1 ++ (A1 ++ (B2 ++ B3 ++ S1)) = P1 ++ (A1 ++ (B2 ++ (B3 ++ S1))) by simp]
   repeat' ((conv => whnf); first | (refine ⟨fun h => ?_, fun h => ?_⟩ <;> try (exfalso; first | omega | (revert h; decide) | exact h rfl)) | refine ⟨[0], _, swap_g, ⟨rs, P1, A1, B2, B3, S1⟩, ⟨by show B3.length = A1.length; omega, by show (P1 ++ (A1 ++ (B2 ++ (B3 ++ S1)))).length ≤ 1000000; first | omega | (simp; done) | (simp; omega)⟩, ⟨⟨⟨rfl, rfl, rfl⟩, trivial⟩, rfl, rfl, rfl⟩, ⟨⟨rfl, rfl⟩, (show leV (I _) (I (P1.length)) from leI (by first | omega | (simp; done) | (simp; omega))), (show leV (I _) (I (P1.length + A1.length + B2.length)) from leI (by first | omega | (simp; done) | (simp; omega))), (show leV (I _) (I (A1.length)) from leI (by first | omega | (simp; done) | (simp; omega))), rfl, trivial⟩, .inr ⟨rfl, ⟨cln1 _, trivial⟩, trivial⟩, ⟨⟨⟨⟨rfl, rfl⟩, by first | (simp; done) | (simp; omega)⟩, trivial⟩, trivial⟩, ?_⟩ | (refine ⟨(_, _, _), ⟨?_, by (try dsimp only); omega⟩, [], ⟨⟨rfl, rfl⟩, ⟨rfl, rfl⟩, ⟨rfl, rfl⟩, ⟨rfl, rfl⟩, ⟨rfl, rfl⟩, ⟨rfl, rfl⟩, ⟨rfl, rfl⟩, trivial⟩, ⟨⟨rfl, rfl, rfl⟩, trivial⟩, rfl, rfl, rfl⟩; (try dsimp only); exact ⟨P1, B3, B2, A1 ++ S1, ⟨⟨by omega, by omega, by omega⟩, by omega, by omega⟩, by rw [hfin]; simp, by simp⟩) | refine ⟨⟨by omega, by omega⟩, ?_⟩ | fail)
 · subst hij
   rw [show P1 ++ (A1 ++ (B1 ++ S1)) = P1 ++ (A1 ++ ([] ++ (B1 ++ S1))) by simp]
   repeat' ((conv => whnf); first | (refine ⟨fun h => ?_, fun h => ?_⟩ <;> try (exfalso; first | omega | (revert h; decide) | exact h rfl)) | refine ⟨[0], _, swap_g, ⟨rs, P1, A1, [], B1, S1⟩, ⟨by show B1.length = A1.length; omega, by show (P1 ++ (A1 ++ (([] : List Int) ++ (B1 ++ S1)))).length ≤ 1000000; first | omega | (simp; done) | (simp; omega)⟩, ⟨⟨⟨rfl, rfl, rfl⟩, trivial⟩, rfl, rfl, rfl⟩, ⟨⟨rfl, rfl⟩, (show leV (I _) (I (P1.length)) from leI (by first | omega | (simp; done) | (simp; omega))), (show leV (I _) (I (P1.length + A1.length + ([] : List Int).length)) from leI (by first | omega | (simp; done) | (simp; omega))), (show leV (I _) (I (A1.length)) from leI (by first | omega | (simp; done) | (simp; omega))), rfl, trivial⟩, .inr ⟨rfl, ⟨cln1 _, trivial⟩, trivial⟩, ⟨⟨⟨⟨rfl, rfl⟩, by first | (simp; done) | (simp; omega)⟩, trivial⟩, trivial⟩, ?_⟩ | refine ⟨⟨by omega, by omega⟩, ?_⟩ | fail)
   refine ⟨[], rfl, rfl, ⟨⟨?_, rfl⟩, trivial⟩, trivial⟩
   show some (Ob.row 3 1 ((P1 ++ (B1 ++ ([] ++ (A1 ++ S1)))).map e1)) = some (Ob.row 3 1 ((P ++ (B ++ (A ++ S))).map e1))
   rw [hfin]; rfl
 · obtain ⟨A2, A3, rfl, ha2⟩ : ∃ A2 A3 : List Int, A1 = A2 ++ A3 ∧ (A2.length : Int) = j := ⟨A1.take j.toNat, A1.drop j.toNat, (List.take_append_drop ..).symm, by rw [List.length_take]; omega⟩
   rw [List.length_append] at l1
   simp only [List.length_append] at hll
   rw [show P1 ++ (A2 ++ A3 ++ (B1 ++ S1)) = P1 ++ (A2 ++ (A3 ++ (B1 ++ S1))) by simp]
   repeat' ((conv => whnf); first | (refine ⟨fun h => ?_, fun h => ?_⟩ <;> try (exfalso; first | omega | (revert h; decide) | exact h rfl)) | refine ⟨[0], _, swap_g, ⟨rs, P1, A2, A3, B1, S1⟩, ⟨by show B1.length = A2.length; omega, by show (P1 ++ (A2 ++ (A3 ++ (B1 ++ S1)))).length ≤ 1000000; first | omega | (simp; done) | (simp; omega)⟩, ⟨⟨⟨rfl, rfl, rfl⟩, trivial⟩, rfl, rfl, rfl⟩, ⟨⟨rfl, rfl⟩, (show leV (I _) (I (P1.length)) from leI (by first | omega | (simp; done) | (simp; omega))), (show leV (I _) (I (P1.length + A2.length + A3.length)) from leI (by first | omega | (simp; done) | (simp; omega))), (show leV (I _) (I (A2.length)) from leI (by first | omega | (simp; done) | (simp; omega))), rfl, trivial⟩, .inr ⟨rfl, ⟨cln1 _, trivial⟩, trivial⟩, ⟨⟨⟨⟨rfl, rfl⟩, by first | (simp; done) | (simp; omega)⟩, trivial⟩, trivial⟩, ?_⟩ | (refine ⟨(_, _, _), ⟨?_, by (try dsimp only); omega⟩, [], ⟨⟨rfl, rfl⟩, ⟨rfl, rfl⟩, ⟨rfl, rfl⟩, ⟨rfl, rfl⟩, ⟨rfl, rfl⟩, ⟨rfl, rfl⟩, ⟨rfl, rfl⟩, trivial⟩, ⟨⟨rfl, rfl, rfl⟩, trivial⟩, rfl, rfl, rfl⟩; (try dsimp only); exact ⟨P1 ++ B1, A3, A2, S1, ⟨⟨by rw [List.length_append]; omega, by omega, by omega⟩, by omega, by omega⟩, by rw [hfin]; simp, by simp⟩) | refine ⟨⟨by omega, by omega⟩, ?_⟩ | fail)
theorem rot_g : HoldsG Tryz.prog 122 rotS := holdsG_of mix Tryz.func122 rotLow (fun _ => rfl) rotV
theorem cl : callable Tryz.prog 49 = true := by kernel_rfl
structure InsX where
 rs : List Int
 P : List Int
 A : List Int
 S : List Int
 R : List Int
def insS : GSpec := ⟨InsX, fun x => [.row 3 1 ((x.P ++ (x.A ++ x.S)).map e1)], fun x => [.osl 0, I x.P.length, I (x.P.length + x.A.length), .fn 49 [.rp [.sl 1 (x.rs.map e1)]]],
 fun x => ((∀ y ∈ x.A, 0 ≤ y ∧ y < x.rs.length) ∧ x.rs.length ≤ 1000000 ∧ x.A.Pairwise (stb (keyR x.rs)) ∧ SortedOf (keyR x.rs) x.A x.R) ∧ (x.P ++ (x.A ++ x.S)).length ≤ 1000000, fun _ => .tup [], fun x => [.row 3 1 ((x.P ++ (x.R ++ x.S)).map e1)], fun _ => []⟩
theorem ins_done {f : Int → Int} {A0 D1 D2 : List Int} {x : Int} (h : SortedOf f A0 (D1 ++ D2)) (h1 : ∀ y ∈ D1, bef f y x) (h2 : ∀ y ∈ D2, bef f x y) : SortedOf f (A0 ++ [x]) (D1 ++ x :: D2) := by
 refine ⟨List.perm_middle.trans ((h.1.cons x).trans (List.perm_append_comm (l₁ := [x]) (l₂ := A0))), ?_⟩
 have h3 := h.2
 rw [List.pairwise_append] at h3 ⊢
 refine ⟨h3.1, List.pairwise_cons.2 ⟨h2, h3.2.1⟩, fun a ha b hb => ?_⟩
 rcases List.mem_cons.1 hb with rfl | hb
 · exact h1 a ha
 · exact h3.2.2 a ha b hb
def insIr : IFn := ⟨53, [], (zq [ zm 10 1, zl 11 (.bin .add .i64 false) [.tmp 10, zi 1], zm 8 11] (.block 0 (.loop (.seq (zq [ zm 12 8, zm 13 2, zo 14 (.cmp .lss) [12, 13]] (.cond (.tmp 14) .skip (.exit 0))) (.seq (.block 1 (zq [ zm 17 8, zm 9 17] (.block 2 (.loop (.seq (.seq (.ops [ zm 18 9, zm 19 1, zo 20 (.cmp .gtr) [18, 19], zm 21 20, zw 22 3 21 true, zw 23 0 21 true, zw 24 9 21 true, zg 25 (.idx 1) [23, 24] 21 true, zg 26 (.load 1 false) [25] 21 true, zw 27 0 21 true, zw 28 9 21 true, zh 29 (.bin .sub .i64 false) [.tmp 28, zi 1] 21 true, zg 30 (.idx 1) [27, 29] 21 true, zg 31 (.load 1 false) [30] 21 true, zg
 32 .callv [22, 26, 31] 21 true, zh 33 (.cmp .lss) [.tmp 32, zi 0] 21 true, zl 34 .pick [.tmp 21, .tmp 33, zf]] true) (.cond (.tmp 34) .skip (.exit 2))) (.seq (.block 3 (.ops [ zm 37 0, zm 38 9, zm 39 0, zm 40 9, zl 41 (.bin .sub .i64 false) [.tmp 40, zi 1], zm 42 0, zm 43 9, zl 44 (.bin .sub .i64 false) [.tmp 43, zi 1], zo 45 (.idx 1) [42, 44], zo 46 (.load 1 false) [45], zm 47 0, zm 48 9, zo 49 (.idx 1) [47, 48], zo 50 (.load 1 false) [49], zo 51 (.idx 1) [37, 38], zn (.store 1) [51, 46], zo 52 (.idx 1) [39, 41], zn (.store 1) [52, 50]] true)) (zp [ zm 35 9, zl 36 (.bin .sub .i64 false) [.tmp
 35, zi 1], zm 9 36]))))))) (zp [ zm 15 8, zl 16 (.bin .add .i64 false) [.tmp 15, zi 1], zm 8 16]))))))⟩
theorem insLow : lowF Tryz.prog {} Tryz.f96 = some insIr := by kernel_rfl
theorem insV : fnG Tryz.prog insIr insS := by
 intro ⟨rs, P, A, S, R⟩ hx
 obtain ⟨⟨hA, hrs, hst, hso⟩, hlen⟩ : ((∀ y ∈ A, 0 ≤ y ∧ y < rs.length) ∧ rs.length ≤ 1000000 ∧ A.Pairwise (stb (keyR rs)) ∧ SortedOf (keyR rs) A R) ∧ (P ++ (A ++ S)).length ≤ 1000000 := hx
 simp only [List.length_append] at hlen
 cases A with
 | nil =>
   have hR : R = [] := List.Perm.eq_nil hso.1
   subst hR
   show vc _ _ _ _ ⟨argEnv 0 [.osl 0, I P.length, I (P.length + ([] : List Int).length), .fn 49 [.rp [.sl 1 (rs.map e1)]]], idxFrom 0 [.row 3 1 ((P ++ ([] ++ S)).map e1)], 1⟩
   simp only [List.length_nil] at hlen
   conv => whnf
   refine ⟨⟨by omega, by omega⟩, ?_⟩
   conv => whnf
   refine ⟨Int, fun i => ⟨[(8, I i), (2, I (P.length + ([] : List Int).length))], [(0, .row 3 1 ((P ++ ([] ++ S)).map e1))], 1⟩, fun i => i = P.length + 1, fun _ => 0, ⟨_, rfl, [(0, 0)], ⟨⟨rfl, rfl⟩, ⟨rfl, rfl⟩, trivial⟩, ⟨⟨rfl, rfl, rfl⟩, trivial⟩, rfl, rfl, rfl⟩, fun i hi => ?_⟩
   replace hi : i = P.length + 1 := hi
   subst hi
   conv => whnf
   refine ⟨fun h => absurd h (by simp only [List.length_nil]; omega), fun _ => ?_⟩
   conv => whnf
   exact ⟨[], rfl, rfl, ⟨⟨rfl, rfl⟩, trivial⟩, trivial⟩
 | cons a A =>
 show vc _ _ _ _ ⟨argEnv 0 [.osl 0, I P.length, I (P.length + (a :: A).length), .fn 49 [.rp [.sl 1 (rs.map e1)]]], idxFrom 0 [.row 3 1 ((P ++ ((a :: A) ++ S)).map e1)], 1⟩
 have hAl : (a :: A).length = A.length + 1 := rfl
 conv => whnf
 refine ⟨⟨by omega, by omega⟩, ?_⟩
 conv => whnf
 refine ⟨Int × (List (List CV)), fun xq => ⟨[(0, .osl 0), (1, I P.length), (2, I (P.length + (a :: A).length)), (3, .fn 49 [.rp [.sl 1 (rs.map e1)]]), (8, I xq.1)], [(0, .row 3 1 xq.2)], 1⟩, fun xq => ∃ A0 D E : List Int, (a :: A = A0 ++ E ∧ SortedOf (keyR rs) A0 D) ∧ (0 < A0.length ∧ xq.1 = P.length + A0.length) ∧ xq.2 = (P ++ (D ++ (E ++ S))).map e1, fun xq => (P.length + (a :: A).length - xq.1).toNat, ⟨(_, _), ?_, [], ⟨⟨rfl, rfl⟩, ⟨rfl, rfl⟩, ⟨rfl, rfl⟩, ⟨rfl, rfl⟩, ⟨rfl, rfl⟩, trivial⟩, ⟨⟨rfl, rfl, rfl⟩, trivial⟩, rfl, rfl, rfl⟩, ?_⟩
 · (try dsimp only); exact ⟨[a], [a], A, ⟨rfl, .refl _, List.pairwise_singleton _ _⟩, ⟨by simp, rfl⟩, rfl⟩
 rintro ⟨i, es⟩ hk
 obtain ⟨A0, D, E, ⟨hAE, hD⟩, ⟨h0, hi⟩, rfl⟩ : ∃ A0 D E : List Int, (a :: A = A0 ++ E ∧ SortedOf (keyR rs) A0 D) ∧ (0 < A0.length ∧ i = P.length + A0.length) ∧ es = (P ++ (D ++ (E ++ S))).map e1 := hk
 (try dsimp only)
 have hDl := hD.1.length_eq
 have hEl := congrArg List.length hAE
 rw [List.length_append] at hEl
 by_cases hik : i < P.length + (a :: A).length
 · obtain ⟨x, E, rfl⟩ := first_of (l := E) (by omega)
   simp only [List.length_cons] at hEl
   have hxr : 0 ≤ x ∧ x < rs.length := hA x (by rw [hAE]; simp)
   have hxs : ∀ y ∈ A0, stb (keyR rs) y x := by
     rw [hAE, List.pairwise_append] at hst
     exact fun y hy => hst.2.2 y hy x (by simp)
   repeat' ((conv => whnf); first | (refine ⟨fun h => ?_, fun h => ?_⟩ <;> try (exfalso; first | omega | (revert h; decide) | exact h rfl)) | fail)
   refine ⟨Int × (List (List CV)), fun xq => ⟨[(0, .osl 0), (1, I P.length), (2, I (P.length + (a :: A).length)), (3, .fn 49 [.rp [.sl 1 (rs.map e1)]]), (8, I i), (9, I xq.1)], [(0, .row 3 1 xq.2)], 1⟩, fun xq => ∃ D1 D2 : List Int, D = D1 ++ D2 ∧ (∀ y ∈ D2, keyR rs y < keyR rs x) ∧ xq.1 = P.length + D1.length ∧ xq.2 = (P ++ (D1 ++ (x :: (D2 ++ (E ++ S))))).map e1, fun xq => xq.1.toNat, ⟨(_, _), ?_, [], ⟨⟨rfl, rfl⟩, ⟨rfl, rfl⟩, ⟨rfl, rfl⟩, ⟨rfl, rfl⟩, ⟨rfl, rfl⟩, ⟨rfl, rfl⟩, trivial⟩, ⟨⟨rfl, rfl, rfl⟩, trivial⟩, rfl, rfl, rfl⟩, ?_⟩
   · (try dsimp only); exact ⟨D, [], by simp, by simp, by omega, by simp⟩
   rintro ⟨j, es⟩ hk
   obtain ⟨D1, D2, hDD, hlt, hj, rfl⟩ : ∃ D1 D2 : List Int, D = D1 ++ D2 ∧ (∀ y ∈ D2, keyR rs y < keyR rs x) ∧ j = P.length + D1.length ∧ es = (P ++ (D1 ++ (x :: (D2 ++ (E ++ S))))).map e1 := hk
   (try dsimp only)
   have hDl2 := congrArg List.length hDD
   rw [List.length_append] at hDl2
   have done : (∀ y ∈ D1, bef (keyR rs) y x) → SortedOf (keyR rs) (A0 ++ [x]) (D1 ++ x :: D2) := fun h1 => ins_done (hDD ▸ hD) h1 fun y hy => .inl (hlt y hy)
   by_cases hd : 0 < D1.length
   · obtain ⟨D3, y, rfl⟩ := last_of hd
     have hym : y ∈ A0 := hD.1.mem_iff.1 (by rw [hDD]; simp)
     have hyr : 0 ≤ y ∧ y < rs.length := hA y (by rw [hAE]; simp [hym])
     have hc := cmpI_lt (keyR rs y) (keyR rs x)
     rw [List.length_append, List.length_singleton] at hj hDl2
     have hes : P ++ (D3 ++ [y] ++ (x :: (D2 ++ (E ++ S)))) = (P ++ D3) ++ y :: x :: (D2 ++ (E ++ S)) := by simp
     have i1 : j.toNat = (P ++ D3).length + 1 := by rw [List.length_append]; omega
     have i2 : (j - 1).toNat = (P ++ D3).length := by rw [List.length_append]; omega
     have hl1 : ((((P ++ D3) ++ y :: x :: (D2 ++ (E ++ S))).map e1).length : Int) = P.length + (a :: A).length + S.length := by simp only [List.length_map, List.length_append, List.length_cons]; omega
     have g1 : (((P ++ D3) ++ y :: x :: (D2 ++ (E ++ S))).map e1)[j.toNat]? = some [.int .i64 x] := get_e1 (by rw [i1]; exact get_mid2 _ _ _ _)
     have g2 : (((P ++ D3) ++ y :: x :: (D2 ++ (E ++ S))).map e1)[(j - 1).toNat]? = some [.int .i64 y] := get_e1 (by rw [i2]; exact get_mid _ _ _)
     have g3 : ((((P ++ D3) ++ y :: x :: (D2 ++ (E ++ S))).map e1).set j.toNat [.int .i64 y])[(j - 1).toNat]? = some [.int .i64 y] := by rw [List.getElem?_set_ne (by omega)]; exact g2
     have g4 : ((((P ++ D3) ++ y :: x :: (D2 ++ (E ++ S))).map e1).set j.toNat [.int .i64 y]).set (j - 1).toNat [.int .i64 x] = (P ++ (D3 ++ (x :: ((y :: D2) ++ (E ++ S))))).map e1 := by
       rw [map_set1, map_set1, i1, i2, swap_mid]; simp
     by_cases hyx : keyR rs y < keyR rs x
     · rw [hes]
       generalize (((P ++ D3) ++ y :: x :: (D2 ++ (E ++ S))).map e1) = cur at *
       repeat' ((conv => whnf); first | (refine ⟨fun h => ?_, fun h => ?_⟩ <;> try (exfalso; first | omega | (revert h; decide) | exact h rfl)) | (refine ⟨cl, _, less_h, (rs, x, y), ⟨⟨hxr, hyr⟩, hrs⟩, leVs_of_eq rfl, .inr rfl, rfl, ?_⟩; show norm (I (cmpI (keyR rs y) (keyR rs x))) _) | refine get_at g1 ?_ | refine get_at g2 ?_ | refine get_at g3 ?_ | (refine ⟨(_, _), ⟨?_, by (try dsimp only); omega⟩, [], ⟨⟨rfl, rfl⟩, ⟨rfl, rfl⟩, ⟨rfl, rfl⟩, ⟨rfl, rfl⟩, ⟨rfl, rfl⟩, ⟨rfl, rfl⟩, trivial⟩, ⟨⟨rfl, rfl, rfl⟩, trivial⟩, rfl, rfl, rfl⟩; (try dsimp only); exact ⟨D3, y :: D2, by rw [hDD]; simp, fun z hz => (List.mem_cons.1 hz).elim (fun e => by rw [e]; exact hyx) (hlt z), by omega, g4⟩) | refine ⟨⟨by omega, by omega⟩, ?_⟩ | refine ⟨⟨by omega, by (rw [List.length_set]; omega)⟩, ?_⟩ | fail)
     · have hso2 := done fun z hz => by
         have hyx' : bef (keyR rs) y x := bef_of (hxs y hym) (by omega)
         rcases List.mem_append.1 hz with hz | hz
         · have h3 := hD.2
           rw [hDD, List.pairwise_append, List.pairwise_append] at h3
           exact bef_trans (h3.1.2.2 z hz y (by simp)) hyx'
         · rw [List.mem_singleton] at hz; subst hz; exact hyx'
       rw [hes]
       generalize hcur : (((P ++ D3) ++ y :: x :: (D2 ++ (E ++ S))).map e1) = cur at *
       repeat' ((conv => whnf); first | (refine ⟨fun h => ?_, fun h => ?_⟩ <;> try (exfalso; first | omega | (revert h; decide) | exact h rfl)) | (refine ⟨cl, _, less_h, (rs, x, y), ⟨⟨hxr, hyr⟩, hrs⟩, leVs_of_eq rfl, .inr rfl, rfl, ?_⟩; show norm (I (cmpI (keyR rs y) (keyR rs x))) _) | refine get_at g1 ?_ | refine get_at g2 ?_ | (refine ⟨(_, _), ⟨?_, by (try dsimp only); omega⟩, [], ⟨⟨rfl, rfl⟩, ⟨rfl, rfl⟩, ⟨rfl, rfl⟩, ⟨rfl, rfl⟩, ⟨rfl, rfl⟩, trivial⟩, ⟨⟨rfl, rfl, rfl⟩, trivial⟩, rfl, rfl, rfl⟩; (try dsimp only); exact ⟨A0 ++ [x], _, E, ⟨by rw [hAE]; simp, hso2⟩, ⟨by simp, by rw [List.length_append]; simp; omega⟩, by rw [← hcur]; simp⟩) | refine ⟨⟨by omega, by omega⟩, ?_⟩ | fail)
   · have hd1 : D1 = [] := List.eq_nil_of_length_eq_zero (by omega)
     have hso2 := done (by subst hd1; simp)
     repeat' ((conv => whnf); first | (refine ⟨fun h => ?_, fun h => ?_⟩ <;> try (exfalso; first | omega | (revert h; decide) | exact h rfl)) | (refine ⟨(_, _), ⟨?_, by (try dsimp only); omega⟩, [], ⟨⟨rfl, rfl⟩, ⟨rfl, rfl⟩, ⟨rfl, rfl⟩, ⟨rfl, rfl⟩, ⟨rfl, rfl⟩, trivial⟩, ⟨⟨rfl, rfl, rfl⟩, trivial⟩, rfl, rfl, rfl⟩; (try dsimp only); exact ⟨A0 ++ [x], _, E, ⟨by rw [hAE]; simp, hso2⟩, ⟨by simp, by rw [List.length_append]; simp; omega⟩, by simp⟩) | refine ⟨⟨by omega, by omega⟩, ?_⟩ | fail)
 · have hE : E = [] := List.eq_nil_of_length_eq_zero (by omega)
   subst hE
   rw [List.append_nil] at hAE
   rw [← hAE] at hD
   have hR := sorted_uniq hD hso
   subst hR
   repeat' ((conv => whnf); first | (refine ⟨fun h => ?_, fun h => ?_⟩ <;> try (exfalso; first | omega | (revert h; decide) | exact h rfl)) | fail)
   exact ⟨[], rfl, rfl, ⟨⟨rfl, rfl⟩, trivial⟩, trivial⟩
theorem ins_g : HoldsG Tryz.prog 96 insS := holdsG_of mix Tryz.func96 insLow (fun _ => rfl) insV
theorem inR_u64 {n : Int} (h0 : 0 ≤ n) (h1 : n < 18446744073709551616) : inR .u64 n := by
 show IntKind.wrap .u64 n = n
 simp only [IntKind.wrap, IntKind.bits, IntKind.signed]
 simp
 omega
theorem half (n : Int) : n.fdiv (2 ^ Nat.min ((1 : Int).toNat) (IntKind.bits .u64)) = n / 2 := by
 show n.fdiv 2 = n / 2
 exact Int.fdiv_eq_ediv_of_nonneg n (by omega)
theorem key_mono {f : Int → Int} {l : List Int} (h : l.Pairwise (bef f)) {p q : Nat} {x y : Int} (hx : l[p]? = some x) (hy : l[q]? = some y) (hpq : p ≤ q) : f y ≤ f x := by
 by_cases e : p = q
 · subst e; rw [hx] at hy; cases hy; omega
 · obtain ⟨h1, rfl⟩ := List.getElem?_eq_some_iff.1 hx
   obtain ⟨h2, rfl⟩ := List.getElem?_eq_some_iff.1 hy
   have := List.pairwise_iff_getElem.1 h p q h1 h2 (by omega)
   unfold bef at this; omega
theorem take_key {f : Int → Int} {l : List Int} (h : l.Pairwise (bef f)) {u : Nat} {y z : Int} (hy : l[u - 1]? = some y) (hz : z ∈ l.take u) : f y ≤ f z := by
 obtain ⟨p, hp⟩ := List.getElem?_of_mem hz
 rw [List.getElem?_take] at hp
 split at hp
 · exact key_mono h hp hy (by omega)
 · cases hp
theorem drop_key {f : Int → Int} {l : List Int} (h : l.Pairwise (bef f)) {u : Nat} {y z : Int} (hy : l[u]? = some y) (hz : z ∈ l.drop u) : f z ≤ f y := by
 obtain ⟨p, hp⟩ := List.getElem?_of_mem hz
 rw [List.getElem?_drop] at hp
 exact key_mono h hy hp (by omega)
theorem put_in {f : Int → Int} {B R : List Int} {x : Int} {u : Nat} (hB : B.Pairwise (bef f)) (hR : SortedOf f (x :: B) R) (h1 : ∀ y ∈ B.take u, bef f y x) (h2 : ∀ y ∈ B.drop u, bef f x y) : R = B.take u ++ x :: B.drop u := by
 refine sorted_uniq hR ⟨?_, ?_⟩
 · refine List.perm_middle.trans ?_
   rw [List.take_append_drop]
 · have h3 : (B.take u ++ B.drop u).Pairwise (bef f) := by rw [List.take_append_drop]; exact hB
   rw [List.pairwise_append] at h3 ⊢
   refine ⟨h3.1, List.pairwise_cons.2 ⟨h2, h3.2.1⟩, fun a ha b hb => ?_⟩
   rcases List.mem_cons.1 hb with rfl | hb
   · exact h1 a ha
   · exact h3.2.2 a ha b hb
theorem put_left {f : Int → Int} {B R : List Int} {x : Int} {u : Nat} (hB : B.Pairwise (bef f)) (hs : ∀ y ∈ B, stb f x y) (hR : SortedOf f ([x] ++ B) R) (h1 : u = 0 ∨ ∃ y, B[u - 1]? = some y ∧ f x < f y) (h2 : u = B.length ∨ ∃ y, B[u]? = some y ∧ f y ≤ f x) : R = B.take u ++ x :: B.drop u := by
 refine put_in hB hR (fun y hy => ?_) (fun y hy => ?_)
 · rcases h1 with rfl | ⟨z, hz, hlt⟩
   · simp at hy
   · have := take_key hB hz hy; exact .inl (by omega)
 · rcases h2 with rfl | ⟨z, hz, hle⟩
   · rw [List.drop_length] at hy; simp at hy
   · have := drop_key hB hz hy; exact bef_of (hs y (List.mem_of_mem_drop hy)) (by omega)
theorem put_right {f : Int → Int} {A R : List Int} {x : Int} {u : Nat} (hA : A.Pairwise (bef f)) (hs : ∀ y ∈ A, stb f y x) (hR : SortedOf f (A ++ [x]) R) (h1 : u = 0 ∨ ∃ y, A[u - 1]? = some y ∧ f x ≤ f y) (h2 : u = A.length ∨ ∃ y, A[u]? = some y ∧ f y < f x) : R = A.take u ++ x :: A.drop u := by
 refine put_in hA ⟨hR.1.trans List.perm_append_comm, hR.2⟩ (fun y hy => ?_) (fun y hy => ?_)
 · rcases h1 with rfl | ⟨z, hz, hlt⟩
   · simp at hy
   · have := take_key hA hz hy; exact bef_of (hs y (List.mem_of_mem_take hy)) (by omega)
 · rcases h2 with rfl | ⟨z, hz, hle⟩
   · rw [List.drop_length] at hy; simp at hy
   · have := drop_key hA hz hy; exact .inl (by omega)
theorem cut_ahead {f : Int → Int} {A B : List Int} {q u : Nat} (hA : A.Pairwise (bef f)) (hB : B.Pairwise (bef f)) (hs : ∀ x ∈ A, ∀ y ∈ B, stb f x y) (hlo : q - B.length ≤ u) (hhi : u ≤ min q A.length)
   (h1 : u = q - B.length ∨ ∃ y z, A[u - 1]? = some z ∧ B[q - u]? = some y ∧ f y ≤ f z) (h2 : u = min q A.length ∨ ∃ y z, A[u]? = some z ∧ B[q - u - 1]? = some y ∧ f z < f y) : Ahead f (A.take u ++ B.take (q - u)) (A.drop u ++ B.drop (q - u)) := by
 have hA' : (A.take u ++ A.drop u).Pairwise (bef f) := by rw [List.take_append_drop]; exact hA
 have hB' : (B.take (q - u) ++ B.drop (q - u)).Pairwise (bef f) := by rw [List.take_append_drop]; exact hB
 rw [List.pairwise_append] at hA' hB'
 intro x hx y hy
 rcases List.mem_append.1 hx with hx | hx <;> rcases List.mem_append.1 hy with hy | hy
 · exact hA'.2.2 x hx y hy
 · rcases h1 with h1 | ⟨b, a, ha, hb, hle⟩
   · by_cases hz : u = 0
     · subst hz; simp at hx
     · rw [List.drop_eq_nil_of_le (by clear h2; omega)] at hy; simp at hy
   · have e1 := take_key hA ha hx
     have e2 := drop_key hB hb hy
     exact bef_of (hs x (List.mem_of_mem_take hx) y (List.mem_of_mem_drop hy)) (by omega)
 · rcases h2 with h2 | ⟨b, a, ha, hb, hle⟩
   · by_cases hz : u = q
     · subst hz; simp at hx
     · rw [List.drop_eq_nil_of_le (by clear h1; omega)] at hy; simp at hy
   · have e1 := drop_key hA ha hy
     have e2 := take_key hB hb hx
     exact .inl (by omega)
 · exact hB'.2.2 x hx y hy
end Go.Proofs.YtjpdaapjnpdiiaaGreat
