/- A part of the proof. -/
import Derived.Test.YtjpdaapjnpdiiaaGreatTH
namespace Go.Proofs.YtjpdaapjnpdiiaaGreat
open Go.RowKit
structure BkP (m : Mp) (l : List Tariff) (rides : List Ride) : Prop where
 hm : okM m
 ops : ∀ x ∈ m.lifts, 1 ≤ x.op ∧ x.op ≤ 8
 ll : l.length ≤ 1000000
 hR : Rates l
 hr : rides.length ≤ 100
structure SaP (s : Sale) : Prop where
 sel : 1 ≤ s.seller ∧ s.seller ≤ 8
 fee : 0 ≤ s.fee ∧ s.fee ≤ s.paid
 paid : s.paid ≤ 100000000
theorem BkP.of {m : Mp} {l : List Tariff} {rides : List Ride} (h : BkP m l rides) {s : Sale} (k : SaP s) : OfP m l rides s := ⟨h.hm, h.ops, h.ll, h.hR, h.hr, k.sel, k.fee, k.paid⟩
theorem sale_ok {l : List Sale} (h : salesE l = 0) : ∀ x ∈ l, SaP x := by
 intro x hx
 obtain ⟨k, hk⟩ := List.getElem?_of_mem hx
 have hkl := (List.getElem?_eq_some_iff.1 hk).1
 have h0 : fe (saleE l) l.length = 0 := by
   unfold salesE at h
   split at h
   · cases h
   · exact h
 have h1 := fe_all h0 k hkl
 unfold saleE at h1
 rw [at_of hk] at h1
 split at h1
 · cases h1
 rename_i hp
 split at h1
 · cases h1
 rename_i hf
 obtain ⟨_, _, hs, _, hd⟩ : saleP x := Decidable.not_not.1 hp
 exact ⟨hs, Decidable.not_not.1 hf, hd.2⟩
theorem sum_idx : ∀ (P : List Int) (n : Nat), n ≤ P.length → sumA (idxK P n) = (P.take n).sum
 | P, 0, _ => by simp [idxK, sumA]
 | P, n + 1, h => by
   obtain ⟨x, hx⟩ := getElem_some (xs := P) (k := n) (by omega)
   have ih := sum_idx P n (by omega)
   rw [idxK_snoc hx, sumA_app, ih, take_snoc P n x hx, List.sum_append]
   simp [sumA]
section
variable {m : Mp} {l : List Tariff} {rides : List Ride} {s : Sale}
theorem cut_pos : ∀ x ∈ cutOf m l rides s, 0 ≤ x := by
 unfold cutOf
 split
 · rename_i hc
   have g := good_of hc
   intro x hx
   obtain ⟨j, hj⟩ := List.getElem?_of_mem hx
   have hjl := (List.getElem?_eq_some_iff.1 hj).1
   rw [partsL_len] at hjl
   obtain ⟨w, hw⟩ := getElem_some hjl
   rw [partsL, incs_get _ _ j (restOf s * w / (ptsOf m l rides s).sum) ((ordL_nodup _).sublist (List.take_sublist _ _)) (fun i hi => by obtain ⟨k, _, rfl⟩ := ordL_mem (List.mem_of_mem_take hi); omega) (by rw [qL, List.getElem?_map, hw]; rfl)] at hj
   have := (g.q (List.mem_of_getElem? hw)).1
   cases hj
   split <;> omega
 · simp
theorem cut_sum : sumA (moreOf m l rides s) + (cutOf m l rides s).sum = restOf s := by
 unfold moreOf cutOf
 split
 · rename_i hc
   rw [(good_of hc).sum]; simp [sumA]
 · simp [sumA]
variable (h : OfP m l rides s)
include h
theorem shares_pos : Pos (sharesOf m l rides s) := by
 have hf := h.fee
 refine Pos.app (Pos.app (fun x hx => ?_) fun x hx => ?_) fun x hx => ?_
 · simp at hx; subst hx; exact hf.1
 · unfold moreOf at hx
   split at hx
   · simp at hx
   · simp at hx; subst hx; show 0 ≤ s.paid - s.fee; omega
 · obtain ⟨i, hi, rfl⟩ := List.mem_map.1 hx
   have hi := List.mem_range.1 hi
   obtain ⟨v, hv⟩ := getElem_some hi
   have : (cutOf m l rides s).getD i 0 = v := by rw [List.getD, hv]; rfl
   show 0 ≤ (cutOf m l rides s).getD i 0
   rw [this]; exact cut_pos v (List.mem_of_getElem? hv)
omit h in
theorem shares_sum : sumA (sharesOf m l rides s) = s.paid := by
 rw [sharesOf, sumA_app, sumA_app, sum_idx _ _ (Nat.le_refl _), List.take_length, Int.add_assoc, cut_sum]
 simp [sumA, restOf]; omega
theorem shares_op : ∀ x ∈ sharesOf m l rides s, 1 ≤ x.o ∧ x.o ≤ 8 := by
 intro x hx
 have hs := h.sel
 have hc := cutOf_len m l rides s
 rcases List.mem_append.1 hx with hx | hx
 · rcases List.mem_append.1 hx with hx | hx
   · simp at hx; subst hx; exact hs
   · unfold moreOf at hx
     split at hx
     · simp at hx
     · simp at hx; subst hx; exact hs
 · obtain ⟨i, hi, rfl⟩ := List.mem_map.1 hx
   have := List.mem_range.1 hi
   show 1 ≤ (i : Int) + 1 ∧ (i : Int) + 1 ≤ 8
   omega
theorem ofL_eq : ofL m l rides s = fewL (sharesOf m l rides s) := by
 have hp := h.paid
 refine if_pos (addO_pos _ [] (fun _ h => by simp at h) (shares_pos h) ?_)
 rw [shares_sum]; simp [sumA]; omega
theorem of_pos : Pos (ofL m l rides s) := by rw [ofL_eq h]; exact (shares_pos h).few
theorem of_sum : sumA (ofL m l rides s) = s.paid := by rw [ofL_eq h, sumA_few, shares_sum]
theorem of_op : ∀ x ∈ ofL m l rides s, 1 ≤ x.o ∧ x.o ≤ 8 := by
 intro x hx
 rw [ofL_eq h] at hx
 obtain ⟨y, hy, e⟩ := List.mem_map.1 (few_op hx)
 have := shares_op h y hy
 omega
theorem of_len : (ofL m l rides s).length ≤ 100 := by
 have h1 := (sharesOf_ok h).1
 have h2 := tab_len (sharesOf m l rides s)
 have h3 : (fewL (sharesOf m l rides s)).length ≤ (tabL (sharesOf m l rides s)).length := List.length_filter_le ..
 rw [ofL_eq h]; omega
end
def allL (m : Mp) (l : List Tariff) (rides : List Ride) (sales : List Sale) : List Share := sales.flatMap (ofL m l rides)
def allR (m : Mp) (l : List Tariff) (rides : List Ride) (sales : List Sale) : List Share := if salesE sales = 0 then fewL (allL m l rides sales) else []
def paidL (sales : List Sale) : Int := (sales.map fun s => s.paid).sum
theorem allL_snoc {m : Mp} {l : List Tariff} {rides : List Ride} {sales : List Sale} {k : Nat} {x : Sale} (h : sales[k]? = some x) : allL m l rides (sales.take (k + 1)) = allL m l rides (sales.take k) ++ ofL m l rides x := by
 rw [take_snoc _ k x h, allL, allL, List.flatMap_append]; simp
structure AllG (L : List Share) (n : Int) (k : Nat) : Prop where
 pos : Pos L
 sum : sumA L = n
 op : ∀ x ∈ L, 1 ≤ x.o ∧ x.o ≤ 8
 len : L.length ≤ 100 * k
theorem all_good {m : Mp} {l : List Tariff} {rides : List Ride} (hb : BkP m l rides) : ∀ {sales : List Sale}, (∀ x ∈ sales, SaP x) → AllG (allL m l rides sales) (paidL sales) sales.length
 | [], _ => ⟨fun _ h => by simp [allL] at h, rfl, fun _ h => by simp [allL] at h, Nat.zero_le _⟩
 | x :: r, h => by
   have ih := all_good hb (sales := r) fun y hy => h y (by simp [hy])
   have hx := hb.of (h x (by simp))
   have e : allL m l rides (x :: r) = ofL m l rides x ++ allL m l rides r := rfl
   rw [e]
   refine ⟨(of_pos hx).app ih.pos, ?_, fun y hy => (List.mem_append.1 hy).elim (of_op hx y) (ih.op y), ?_⟩
   · rw [sumA_app, of_sum hx, ih.sum]; simp [paidL]
   · have := of_len hx
     have := ih.len
     simp only [List.length_append, List.length_cons]; omega
theorem paid_bnd : ∀ {sales : List Sale}, (∀ x ∈ sales, SaP x) → 0 ≤ paidL sales ∧ paidL sales ≤ 100000000 * (sales.length : Int)
 | [], _ => by simp [paidL]
 | x :: r, h => by
   have ih := paid_bnd (sales := r) fun y hy => h y (by simp [hy])
   have hx := h x (by simp)
   have := hx.fee
   have := hx.paid
   have e : paidL (x :: r) = x.paid + paidL r := by simp [paidL]
   rw [e, List.length_cons]; omega
theorem add_few {A B : List Share} (h : Pos (A ++ B)) (hs : sumA (A ++ B) ≤ 1099511627776) : addT (fewL A) B = .tup [L 2 ((fewL (A ++ B)).map encS), I 0] := by
 have hp : Pos (fewL A ++ B) := (h.left.few).app h.right
 have he : sumA (fewL A ++ B) = sumA (A ++ B) := by rw [sumA_app, sumA_app, sumA_few]
 have hT := addO_pos (fewL A ++ B) [] (fun _ h => by simp at h) hp (by rw [he]; simp [sumA] at hs ⊢; exact hs)
 unfold addT
 rw [hT, if_pos rfl, if_pos rfl, few_app]
theorem add_all {A : List Share} (h : Pos A) (hs : sumA A ≤ 1099511627776) : addT A [] = .tup [L 2 ((fewL A).map encS), I 0] := by
 have hT := addO_pos A [] (fun _ h => by simp at h) h (by simp [sumA] at hs ⊢; exact hs)
 unfold addT
 rw [List.append_nil, hT, if_pos rfl, if_pos rfl]
end Go.Proofs.YtjpdaapjnpdiiaaGreat
namespace Go.Proofs.YtjpdaapjnpdiiaaGreat
open Go.RowKit
def allSIr : IFn := ⟨37, [.tmp 8, .tmp 9], (zq [ zo 4 .box [0], zl 8 .mov [zx], zl 9 .mov [zi 0]] (.seq (zq [ zm 14 3, zo 15 (.call 26) [14], zm 10 15] (zq [ zm 16 10, zl 17 (.cmp .neq) [.tmp 16, zi 0]] (.cond (.tmp 17) (zq [ zm 18 10, zl 8 .mov [zx], zm 9 18] .ret) .skip))) (zq [ zo 11 (.nilOwn 47 2) []] (.seq (zq [ zm 19 3, zo 20 .len [19], zl 21 .mov [zi 0]] (.block 0 (.loop (zq [ zo 22 (.cmp .lss) [21, 20]] (.seq (.cond (.tmp 22) .skip (.exit 0)) (.seq (.block 1 (zq [ zo 23 (.idx 6) [19, 21], zo 24 (.load 6 true) [23], zo 13 (.alloc [.int .i64 0, .int .i64 0, .int .i64 0, .int .i64 0, .int .i64 0, .int .i64
 0]) [], zn (.store 6) [13, 24]] (zp [ zm 25 11, zo 26 (.load 4 true) [4], zm 27 1, zm 28 2, zo 29 (.load 6 true) [13], zo 30 (.call 10) [26, 27, 28, 29], zo 31 (.append 47 2 16) [25, 30], zm 11 31]))) (zp [ zl 32 (.bin .add .i64 false) [.tmp 21, zi 1], zm 21 32]))))))) (zq [ zm 33 11, zl 34 (.callo 12) [.tmp 33, zx], zo 35 (.extract 0) [34], zo 36 (.extract 1) [34], zm 8 35, zm 9 36] .ret)))))⟩
theorem allSLow : lowF Tryz.prog { owns := [(11, 47)], gives := [34] } Tryz.f9 = some allSIr := by kernel_rfl
def allSS : Spec := ⟨Mp × List Tariff × List Ride × List Sale, fun p => [aM p.1, L 2 (p.2.1.map encT), L 7 (p.2.2.1.map encD), L 6 (p.2.2.2.map encE)], fun p => BkP p.1 p.2.1 p.2.2.1 ∧ p.2.2.2.length ≤ 40, fun p => .tup [L 2 ((allR p.1 p.2.1 p.2.2.1 p.2.2.2).map encS), I (salesE p.2.2.2)], fun _ => []⟩
set_option maxHeartbeats 4000000 in
theorem allSV : fnV Tryz.prog allSIr allSS := by
 intro ⟨(m : Mp), (l : List Tariff), (rides : List Ride), (sales : List Sale)⟩ hx
 obtain ⟨hb, h40⟩ : BkP m l rides ∧ sales.length ≤ 40 := hx
 have hl : (sales.map encE).length = sales.length := List.length_map ..
 show vc _ _ _ _ ⟨argEnv 0 [aM m, L 2 (l.map encT), L 7 (rides.map encD), L 6 (sales.map encE)], [], 0⟩
 by_cases hE0 : salesE sales = 0
 · have hE := hE0
   have hR : allR m l rides sales = fewL (allL m l rides sales) := if_pos hE
   have hok := sale_ok hE
   have hok' : ∀ k, ∀ x ∈ sales.take k, SaP x := fun k x hx => hok x (List.mem_of_mem_take hx)
   repeat' ((conv => whnf); first | (refine ⟨fun h => ?_, fun h => ?_⟩ <;> try (exfalso; first | omega | (revert h; decide) | exact h rfl)) | (refine ⟨_, sright_h, sales, (by show sales.length ≤ 1000000; omega), leVs_of_eq rfl, .inl rfl, rfl, ?_⟩; show norm (I (salesE sales)) _; rw [hE]) | fail)
   refine ⟨Nat × (List (List CV)), fun xq => ⟨[(1, L 2 (l.map encT)), (2, L 7 (rides.map encD)), (4, .bp 0 0), (11, .osl 1), (19, L 6 (sales.map encE)), (20, I (sales.map encE).length), (21, I xq.1)], [(0, .box [L 2 (m.nodes.map encN), L 8 (m.lifts.map encL), L 7 (m.runs.map encU), L 1 (m.bases.map e1)]), (1, .row 47 2 xq.2)], 2⟩, fun xq => xq.1 ≤ sales.length ∧ xq.2 = (allL m l rides (sales.take xq.1)).map encS, fun xq => sales.length - xq.1, ⟨(0, _), ?_, [(0, 0), (1, 1)], ⟨⟨rfl, rfl⟩, ⟨rfl, rfl⟩, ⟨rfl, rfl⟩, ⟨rfl, rfl⟩, ⟨rfl, rfl⟩, ⟨rfl, rfl⟩, ⟨rfl, rfl⟩, trivial⟩, ⟨⟨rfl, rfl, rfl⟩, ⟨rfl, rfl, rfl⟩, trivial⟩, rfl, rfl, rfl⟩, ?_⟩
   · (try dsimp only); exact ⟨Nat.zero_le _, rfl⟩
   rintro ⟨k, es⟩ hk
   obtain ⟨hk, rfl⟩ : k ≤ sales.length ∧ es = (allL m l rides (sales.take k)).map encS := hk
   (try dsimp only)
   have g := all_good hb (hok' k)
   have gl := g.len
   rw [List.length_take] at gl
   by_cases hkl : k < sales.length
   · obtain ⟨x, hx⟩ := getElem_some hkl
     have hof := hb.of (hok x (List.mem_of_getElem? hx))
     have hst := allL_snoc (m := m) (l := l) (rides := rides) hx
     have hln := of_len hof
     have hlm : ((ofL m l rides x).map encS).length = (ofL m l rides x).length := List.length_map ..
     have hel : ((allL m l rides (sales.take k)).map encS).length = (allL m l rides (sales.take k)).length := List.length_map ..
     repeat' ((conv => whnf); first | (refine ⟨fun h => ?_, fun h => ?_⟩ <;> try (exfalso; first | omega | (revert h; decide) | exact h rfl)) | (refine ⟨by omega, fun r hrr => ?_⟩; first | ((have hre : r = encE x := by (first | exact get_row hrr hx | fail)); subst hre)) | (refine ⟨_, of_h, (m, l, rides, x), hof, leVs_of_eq rfl, .inl rfl, rfl, ?_⟩; show norm (L 2 ((ofL m l rides x).map encS)) _) | (refine ⟨(k + 1, _), ⟨?_, by (try dsimp only); omega⟩, [(0, 0), (1, 3)], ⟨⟨rfl, rfl⟩, ⟨rfl, rfl⟩, ⟨rfl, rfl⟩, ⟨rfl, rfl⟩, ⟨rfl, rfl⟩, ⟨rfl, rfl⟩, ⟨rfl, rfl⟩, trivial⟩, ⟨⟨rfl, rfl, rfl⟩, ⟨rfl, rfl, rfl⟩, trivial⟩, rfl, rfl, rfl⟩; (try dsimp only); exact ⟨by omega, by rw [hst, List.map_append]⟩) | refine ⟨⟨by omega, by omega⟩, ?_⟩ | fail)
   · have hkn : sales.take k = sales := take_end hkl
     rw [hkn] at g
     have hpb := paid_bnd hok
     rw [hkn]
     repeat' ((conv => whnf); first | (refine ⟨fun h => ?_, fun h => ?_⟩ <;> try (exfalso; first | omega | (revert h; decide) | exact h rfl)) | (refine ⟨rfl, _, add_h, (allL m l rides sales, []), (by show ((allL m l rides sales).length ≤ 100000 ∧ ([] : List Share).length ≤ 100000) ∧ ∀ x ∈ allL m l rides sales ++ [], okO x; rw [List.append_nil]; exact ⟨⟨by have := g.len; omega, by decide⟩, fun x hx => okO_of (by have := g.op x hx; omega)⟩), ⟨leV_refl _, (show leV (.c .nil) (L 2 (([] : List Share).map encS)) from rfl), trivial⟩, trivial, ?_⟩; show norm (shift _ (addT (allL m l rides sales) [])) _; rw [add_all g.pos (by rw [g.sum]; omega)]) | fail)
     all_goals (refine ⟨[], rfl, trivial, ?_⟩; show leR _ (.tup [L 2 ((allR m l rides sales).map encS), I (salesE sales)]); rw [hE, hR]; exact ⟨leV_refl _, rfl, trivial⟩)
 · obtain ⟨e, hE⟩ : ∃ e, salesE sales = e := ⟨_, rfl⟩
   have hR : allR m l rides sales = [] := if_neg hE0
   rw [hE] at hE0
   repeat' ((conv => whnf); first | (refine ⟨fun h => ?_, fun h => ?_⟩ <;> try (exfalso; first | omega | (revert h; decide) | exact h rfl)) | (refine ⟨_, sright_h, sales, (by show sales.length ≤ 1000000; omega), leVs_of_eq rfl, .inl rfl, rfl, ?_⟩; show norm (I (salesE sales)) _; rw [hE]) | fail)
   all_goals (refine ⟨[], rfl, trivial, ?_⟩; show leR _ (.tup [L 2 ((allR m l rides sales).map encS), I (salesE sales)]); rw [hE, hR]; exact ⟨rfl, rfl, trivial⟩)
theorem allS_h : Holds Tryz.prog 9 allSS := holds_of mix Tryz.func9 allSLow (fun _ => rfl) allSV
end Go.Proofs.YtjpdaapjnpdiiaaGreat
namespace Go.Proofs.YtjpdaapjnpdiiaaGreat
open Go.RowKit
end Go.Proofs.YtjpdaapjnpdiiaaGreat
namespace Go.Proofs.YtjpdaapjnpdiiaaGreat
open Go.RowKit
structure Book where
 m : Mp
 l : List Tariff
 rides : List Ride
abbrev aB (b : Book) : SV := .agg [L 2 (b.m.nodes.map encN), L 8 (b.m.lifts.map encL), L 7 (b.m.runs.map encU), L 1 (b.m.bases.map e1), L 2 (b.l.map encT), L 7 (b.rides.map encD)]
structure okB (b : Book) : Prop where
 hm : okM b.m
 ht : okT b.l
 hd : b.rides.length ≤ 9223372036854775807
def defP (b : Book) : Prop := ((b.rides.length ≤ 100 ∧ rightM b.m = 0) ∧ tarsE b.l = 0) ∧ ridesE b.rides = 0
instance (b : Book) : Decidable (defP b) := by unfold defP; infer_instance
theorem defP.bk {b : Book} (h : defP b) (ho : okB b) : BkP b.m b.l b.rides := by
 obtain ⟨⟨⟨h1, h2⟩, h3⟩, _⟩ := h
 have hr := tarsE_rates h3
 exact ⟨ho.hm, (rightM_lifts h2).2, by omega, hr.2, h1⟩
structure Fine (l : List Share) : Prop where
 op : ∀ x ∈ l, (1 ≤ x.o ∧ x.o ≤ 8) ∧ 1 ≤ x.a
 lt : l.Pairwise fun x y => x.o < y.o
 sum : sumA l ≤ 1099511627776
 len : l.length ≤ 1000000
theorem fine_lt {l : List Share} (h : Fine l) {k : Nat} {x y : Share} (hx : l[k]? = some x) (hy : l[k - 1]? = some y) (hk : 0 < k) : y.o < x.o := by
 obtain ⟨p1, e1⟩ := List.getElem?_eq_some_iff.1 hy
 obtain ⟨p2, e2⟩ := List.getElem?_eq_some_iff.1 hx
 have := List.pairwise_iff_getElem.1 h.lt (k - 1) k p1 p2 (by omega)
 rwa [e1, e2] at this
theorem sumA_snoc {l : List Share} {k : Nat} {x : Share} (h : l[k]? = some x) : sumA (l.take (k + 1)) = sumA (l.take k) + x.a := by
 rw [take_snoc l k x h, sumA_app]; simp [sumA]
theorem fine_few {L : List Share} {n : Int} {k : Nat} (g : AllG L n k) (hk : k ≤ 100) (hn : n ≤ 1099511627776) : Fine (fewL L) := by
 refine ⟨fun x hx => ⟨?_, few_pos g.pos hx⟩, fewL_lt L, by rw [sumA_few, g.sum]; exact hn, by have := few_len L; have := g.len; omega⟩
 obtain ⟨y, hy, e⟩ := List.mem_map.1 (few_op hx)
 have := g.op y hy
 omega
end Go.Proofs.YtjpdaapjnpdiiaaGreat
namespace Go.Proofs.YtjpdaapjnpdiiaaGreat
open Go.RowKit
section
variable {m : Mp} {l : List Tariff} {rides : List Ride} {s : Sale}
end
theorem all_sum {m : Mp} {l : List Tariff} {rides : List Ride} (hb : BkP m l rides) {sales : List Sale} (h : salesE sales = 0) (h4 : sales.length ≤ 40) : Fine (allR m l rides sales) ∧ sumA (allR m l rides sales) = paidL sales := by
 have g := all_good hb (sale_ok h)
 have hp := paid_bnd (sale_ok h)
 unfold allR
 rw [if_pos h, sumA_few, g.sum]
 exact ⟨fine_few g (by omega) (by omega), rfl⟩
end Go.Proofs.YtjpdaapjnpdiiaaGreat
