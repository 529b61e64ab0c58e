/- A part of the proof. -/
import Derived.Test.YtjpdaapjnpdiiaaGreatTG
namespace Go.Proofs.YtjpdaapjnpdiiaaGreat
open Go.RowKit
def restOf (s : Sale) : Int := s.paid - s.fee
def ptsOf (m : Mp) (l : List Tariff) (rides : List Ride) (s : Sale) : List Int := ptsAll m l rides s.serial
def cutOf (m : Mp) (l : List Tariff) (rides : List Ride) (s : Sale) : List Int := if chkF (restOf s) (ptsOf m l rides s) = 0 then partsL (restOf s) (ptsOf m l rides s) else []
def moreOf (m : Mp) (l : List Tariff) (rides : List Ride) (s : Sale) : List Share := if chkF (restOf s) (ptsOf m l rides s) = 0 then [] else [⟨s.seller, restOf s⟩]
def idxK (P : List Int) (k : Nat) : List Share := (List.range k).map fun i : Nat => (⟨(i : Int) + 1, P.getD i 0⟩ : Share)
theorem idxK_snoc {P : List Int} {k : Nat} {n : Int} (h : P[k]? = some n) : idxK P (k + 1) = idxK P k ++ [⟨(k : Int) + 1, n⟩] := by
 rw [idxK, idxK, List.range_succ, List.map_append]
 simp [List.getD, h]
theorem idxK_len (P : List Int) (k : Nat) : (idxK P k).length = k := by simp [idxK]
def sharesOf (m : Mp) (l : List Tariff) (rides : List Ride) (s : Sale) : List Share := [⟨s.seller, s.fee⟩] ++ moreOf m l rides s ++ idxK (cutOf m l rides s) (cutOf m l rides s).length
def ofL (m : Mp) (l : List Tariff) (rides : List Ride) (s : Sale) : List Share := if addO [] (sharesOf m l rides s) then fewL (sharesOf m l rides s) else []
structure OfP (m : Mp) (l : List Tariff) (rides : List Ride) (s : Sale) : Prop where
 hm : okM m
 ops : ∀ x ∈ m.lifts, 1 ≤ x.op ∧ x.op ≤ 8
 ll : l.length ≤ 1000000
 hR : Rates l
 hr : rides.length ≤ 100
 sel : 1 ≤ s.seller ∧ s.seller ≤ 8
 fee : 0 ≤ s.fee ∧ s.fee ≤ s.paid
 paid : s.paid ≤ 100000000
theorem okO_of {x : Share} (h : -1000 ≤ x.o ∧ x.o ≤ 1000) : okO x := by
 unfold okO
 simp [Lit.wf, IntKind.min, IntKind.max, IntKind.signed, IntKind.bits]
 omega
theorem cutOf_len (m : Mp) (l : List Tariff) (rides : List Ride) (s : Sale) : (cutOf m l rides s).length ≤ 8 := by
 unfold cutOf
 split
 · rw [partsL_len, ptsOf, ptsAll_len]; exact Nat.le_refl _
 · exact Nat.zero_le _
theorem sharesOf_ok {m : Mp} {l : List Tariff} {rides : List Ride} {s : Sale} (h : OfP m l rides s) : (sharesOf m l rides s).length ≤ 100 ∧ ∀ x ∈ sharesOf m l rides s, okO x := by
 have hp := cutOf_len m l rides s
 have hm : (moreOf m l rides s).length ≤ 1 ∧ ∀ x ∈ moreOf m l rides s, x.o = s.seller := by
   unfold moreOf
   split
   · exact ⟨by decide, by simp⟩
   · exact ⟨by simp, by simp⟩
 have hs := h.sel
 refine ⟨?_, fun x hx => ?_⟩
 · simp only [sharesOf, List.length_append, List.length_cons, List.length_nil, idxK_len]; omega
 · rcases List.mem_append.1 hx with hx | hx
   · rcases List.mem_append.1 hx with hx | hx
     · simp at hx; subst hx; exact okO_of (by show -1000 ≤ s.seller ∧ s.seller ≤ 1000; omega)
     · exact okO_of (by rw [hm.2 x hx]; omega)
   · obtain ⟨i, hi, rfl⟩ := List.mem_map.1 hx
     have := List.mem_range.1 hi
     exact okO_of (by show -1000 ≤ (i : Int) + 1 ∧ (i : Int) + 1 ≤ 1000; omega)
theorem cutOf_bnd {m : Mp} {l : List Tariff} {rides : List Ride} {s : Sale} : (ptsOf m l rides s).length ≤ 1000000 := by rw [ptsOf, ptsAll_len]; decide
theorem ofT {m : Mp} {l : List Tariff} {rides : List Ride} {s : Sale} {a b : List Share} (h : a ++ b = sharesOf m l rides s) : ∃ e : Int, addT a b = .tup [L 2 ((ofL m l rides s).map encS), I e] := by
 refine ⟨if addO [] (a ++ b) then 0 else 12, ?_⟩
 unfold addT ofL
 rw [h]
theorem splOf (m : Mp) (l : List Tariff) (rides : List Ride) (s : Sale) : splT (s.paid - s.fee) (ptsOf m l rides s) = .tup [L 1 ((cutOf m l rides s).map e1), I (chkF (restOf s) (ptsOf m l rides s))] := rfl
def ofIr : IFn := ⟨69, [.tmp 8], (zq [ zo 4 .box [0], zo 7 .box [3], zl 8 .mov [zx]] (zq [ zo 17 (.faddr 2) [7], zo 18 (.load 1 false) [17], zo 19 (.faddr 5) [7], zo 20 (.load 1 false) [19], zo 21 (.build [.int .i64 0, .int .i64 0] [(0, 1), (1, 1)]) [18, 20], zo 22 (.buildOwn 47 2) [21], zm 9 22] (zq [ zo 23 (.faddr 4) [7], zo 24 (.load 1 false) [23], zo 25 (.faddr 5) [7], zo 26 (.load 1 false) [25], zo 27 (.bin .sub .i64 false) [24, 26], zm 10 27] (zq [ zm 29 10, zo 30 (.load 4 true) [4], zm 31 1, zm 32 2, zo 33 (.faddr 0) [7], zo 34 (.load 1 false) [33], zo 35 (.call 27) [30, 31, 32, 34], zo 36 (.call 17) [29,
 35], zm 28 36, zo 37 (.extract 0) [28], zo 38 (.extract 1) [28], zm 11 37, zm 12 38] (.seq (zq [ zm 39 12, zl 40 (.cmp .neq) [.tmp 39, zi 0]] (.cond (.tmp 40) (zp [ zm 41 9, zo 42 (.faddr 2) [7], zo 43 (.load 1 false) [42], zm 44 10, zo 45 (.build [.int .i64 0, .int .i64 0] [(0, 1), (1, 1)]) [43, 44], zo 46 (.buildSl 47 2) [45], zo 47 (.append 47 2 16) [41, 46], zm 9 47]) .skip)) (.seq (zq [ zm 48 11, zo 49 .len [48], zl 50 .mov [zi 0]] (.block 0 (.loop (zq [ zo 51 (.cmp .lss) [50, 49]] (.seq (.cond (.tmp 51) .skip (.exit 0)) (.seq (.block 1 (zq [ zm 52 50, zo 53 (.idx 1) [48, 50], zo 54 (.load
 1 false) [53], zm 13 52, zm 14 54] (zp [ zm 55 9, zm 56 13, zl 57 (.bin .add .i64 false) [.tmp 56, zi 1], zm 58 14, zo 59 (.build [.int .i64 0, .int .i64 0] [(0, 1), (1, 1)]) [57, 58], zo 60 (.buildSl 47 2) [59], zo 61 (.append 47 2 16) [55, 60], zm 9 61]))) (zp [ zl 62 (.bin .add .i64 false) [.tmp 50, zi 1], zm 50 62]))))))) (zq [ zm 64 9, zl 65 (.callo 12) [.tmp 64, zx], zm 63 65, zo 66 (.extract 0) [63], zo 67 (.extract 1) [63], zm 15 66, zm 16 67] (zq [ zm 68 15, zm 8 68] .ret))))))))⟩
theorem ofLow : lowF Tryz.prog { owns := [(22, 47)], gives := [65] } Tryz.f10 = some ofIr := by kernel_rfl
def ofS : Spec := ⟨Mp × List Tariff × List Ride × Sale, fun p => [aM p.1, L 2 (p.2.1.map encT), L 7 (p.2.2.1.map encD), aE p.2.2.2], fun p => OfP p.1 p.2.1 p.2.2.1 p.2.2.2, fun p => L 2 ((ofL p.1 p.2.1 p.2.2.1 p.2.2.2).map encS), fun _ => []⟩
set_option maxHeartbeats 4000000 in
theorem ofV : fnV Tryz.prog ofIr ofS := by
 intro ⟨(m : Mp), (l : List Tariff), (rides : List Ride), (s : Sale)⟩ hx
 have h : OfP m l rides s := hx
 have hr := h.hr
 have hfee := h.fee
 have hpaid := h.paid
 have hpl8 := cutOf_len m l rides s
 have hpl1 : ((cutOf m l rides s).map e1).length = (cutOf m l rides s).length := List.length_map ..
 obtain ⟨hs1, hs2⟩ := sharesOf_ok h
 show vc _ _ _ _ ⟨argEnv 0 [aM m, L 2 (l.map encT), L 7 (rides.map encD), aE s], [], 0⟩
 by_cases hE0 : chkF (restOf s) (ptsOf m l rides s) = 0
 · have hE := hE0
   have hsh : [(⟨s.seller, s.fee⟩ : Share)] ++ idxK (cutOf m l rides s) (cutOf m l rides s).length = sharesOf m l rides s := by unfold sharesOf moreOf; rw [if_pos hE]; rfl
   obtain ⟨e2, hadd⟩ := ofT (a := [(⟨s.seller, s.fee⟩ : Share)] ++ idxK (cutOf m l rides s) (cutOf m l rides s).length) (b := []) (by rw [List.append_nil]; exact hsh)
   repeat' ((conv => whnf); first | (refine ⟨fun h => ?_, fun h => ?_⟩ <;> try (exfalso; first | omega | (revert h; decide) | exact h rfl)) | (refine ⟨_, points_h, (m, l, rides, s.serial), (by show (okM m ∧ l.length ≤ 1000000) ∧ Rates l ∧ rides.length ≤ 100000; exact ⟨⟨h.hm, h.ll⟩, h.hR, by omega⟩), leVs_of_eq rfl, .inl rfl, rfl, ?_⟩; show norm (L 1 ((ptsOf m l rides s).map e1)) _) | (refine ⟨_, split_h, (s.paid - s.fee, ptsOf m l rides s), cutOf_bnd, leVs_of_eq rfl, .inl rfl, rfl, ?_⟩; show norm (splT (s.paid - s.fee) (ptsOf m l rides s)) _; rw [splOf, hE]) | refine ⟨⟨by omega, by omega⟩, ?_⟩ | (refine ⟨⟨by simp only [List.length_cons, List.length_nil]; omega, by simp only [List.length_cons, List.length_nil]; omega⟩, ?_⟩) | fail)
   refine ⟨Nat × (List (List CV)), fun xq => ⟨[(9, .osl 0), (48, L 1 ((cutOf m l rides s).map e1)), (49, I ((cutOf m l rides s).map e1).length), (50, I xq.1)], [(0, .row 47 2 xq.2)], 1⟩, fun xq => xq.1 ≤ (cutOf m l rides s).length ∧ xq.2 = ([(⟨s.seller, s.fee⟩ : Share)] ++ idxK (cutOf m l rides s) xq.1).map encS, fun xq => (cutOf m l rides s).length - xq.1, ⟨(0, _), ?_, [(0, 2)], ⟨⟨rfl, rfl⟩, ⟨rfl, rfl⟩, ⟨rfl, rfl⟩, ⟨rfl, rfl⟩, trivial⟩, ⟨⟨rfl, rfl, rfl⟩, trivial⟩, rfl, rfl, rfl⟩, ?_⟩
   · (try dsimp only); exact ⟨Nat.zero_le _, rfl⟩
   rintro ⟨k, es⟩ hk
   obtain ⟨hk, rfl⟩ : k ≤ (cutOf m l rides s).length ∧ es = ([(⟨s.seller, s.fee⟩ : Share)] ++ idxK (cutOf m l rides s) k).map encS := hk
   (try dsimp only)
   have hel : (([(⟨s.seller, s.fee⟩ : Share)] ++ idxK (cutOf m l rides s) k).map encS).length = ([(⟨s.seller, s.fee⟩ : Share)] : List Share).length + k := by rw [List.length_map, List.length_append, idxK_len]
   by_cases hkl : k < (cutOf m l rides s).length
   · obtain ⟨x, hx⟩ := getElem_some hkl
     have hst : ([(⟨s.seller, s.fee⟩ : Share)] ++ idxK (cutOf m l rides s) (k + 1)).map encS = ([(⟨s.seller, s.fee⟩ : Share)] ++ idxK (cutOf m l rides s) k).map encS ++ [encS ⟨(k : Int) + 1, x⟩] := by rw [idxK_snoc hx, ← List.append_assoc, List.map_append]; rfl
     repeat' ((conv => whnf); first | (refine ⟨fun h => ?_, fun h => ?_⟩ <;> try (exfalso; first | omega | (revert h; decide) | exact h rfl)) | (refine ⟨by omega, fun r hrr => ?_⟩; first | ((have hre : r = e1 x := by (first | exact get_row hrr hx | fail)); subst hre)) | (refine ⟨(k + 1, _), ⟨?_, by (try dsimp only); omega⟩, [(0, 1)], ⟨⟨rfl, rfl⟩, ⟨rfl, rfl⟩, ⟨rfl, rfl⟩, ⟨rfl, rfl⟩, trivial⟩, ⟨⟨rfl, rfl, rfl⟩, trivial⟩, rfl, rfl, rfl⟩; (try dsimp only); exact ⟨by omega, hst.symm⟩) | refine ⟨⟨by omega, by omega⟩, ?_⟩ | (refine ⟨⟨by (simp only [List.length_cons, List.length_nil] at hel; simp only [List.length_cons, List.length_nil]; omega), by (simp only [List.length_cons, List.length_nil] at hel; simp only [List.length_cons, List.length_nil]; omega)⟩, ?_⟩) | (refine ⟨⟨by simp only [List.length_cons, List.length_nil]; omega, by simp only [List.length_cons, List.length_nil]; omega⟩, ?_⟩) | fail)
   · have hkn : k = (cutOf m l rides s).length := by omega
     subst hkn
     repeat' ((conv => whnf); first | (refine ⟨fun h => ?_, fun h => ?_⟩ <;> try (exfalso; first | omega | (revert h; decide) | exact h rfl)) | (refine ⟨rfl, _, add_h, (([(⟨s.seller, s.fee⟩ : Share)] ++ idxK (cutOf m l rides s) (cutOf m l rides s).length), []), (by show (([(⟨s.seller, s.fee⟩ : Share)] ++ idxK (cutOf m l rides s) (cutOf m l rides s).length).length ≤ 100000 ∧ ([] : List Share).length ≤ 100000) ∧ ∀ x ∈ ([(⟨s.seller, s.fee⟩ : Share)] ++ idxK (cutOf m l rides s) (cutOf m l rides s).length) ++ [], okO x; rw [List.append_nil, hsh]; exact ⟨⟨by omega, by decide⟩, hs2⟩), ⟨leV_refl _, (show leV (.c .nil) (L 2 (([] : List Share).map encS)) from rfl), trivial⟩, trivial, ?_⟩; show norm (shift _ (addT ([(⟨s.seller, s.fee⟩ : Share)] ++ idxK (cutOf m l rides s) (cutOf m l rides s).length) [])) _; rw [hadd]) | fail)
     all_goals exact ⟨[], rfl, trivial, rfl⟩
 · have hsh : [(⟨s.seller, s.fee⟩ : Share), ⟨s.seller, s.paid - s.fee⟩] ++ idxK (cutOf m l rides s) (cutOf m l rides s).length = sharesOf m l rides s := by unfold sharesOf moreOf; rw [if_neg hE0]; rfl
   obtain ⟨e2, hadd⟩ := ofT (a := [(⟨s.seller, s.fee⟩ : Share), ⟨s.seller, s.paid - s.fee⟩] ++ idxK (cutOf m l rides s) (cutOf m l rides s).length) (b := []) (by rw [List.append_nil]; exact hsh)
   obtain ⟨e, hE⟩ : ∃ e, chkF (restOf s) (ptsOf m l rides s) = e := ⟨_, rfl⟩
   rw [hE] at hE0
   repeat' ((conv => whnf); first | (refine ⟨fun h => ?_, fun h => ?_⟩ <;> try (exfalso; first | omega | (revert h; decide) | exact h rfl)) | (refine ⟨_, points_h, (m, l, rides, s.serial), (by show (okM m ∧ l.length ≤ 1000000) ∧ Rates l ∧ rides.length ≤ 100000; exact ⟨⟨h.hm, h.ll⟩, h.hR, by omega⟩), leVs_of_eq rfl, .inl rfl, rfl, ?_⟩; show norm (L 1 ((ptsOf m l rides s).map e1)) _) | (refine ⟨_, split_h, (s.paid - s.fee, ptsOf m l rides s), cutOf_bnd, leVs_of_eq rfl, .inl rfl, rfl, ?_⟩; show norm (splT (s.paid - s.fee) (ptsOf m l rides s)) _; rw [splOf, hE]) | refine ⟨⟨by omega, by omega⟩, ?_⟩ | (refine ⟨⟨by simp only [List.length_cons, List.length_nil]; omega, by simp only [List.length_cons, List.length_nil]; omega⟩, ?_⟩) | fail)
   refine ⟨Nat × (List (List CV)), fun xq => ⟨[(9, .osl 0), (48, L 1 ((cutOf m l rides s).map e1)), (49, I ((cutOf m l rides s).map e1).length), (50, I xq.1)], [(0, .row 47 2 xq.2)], 1⟩, fun xq => xq.1 ≤ (cutOf m l rides s).length ∧ xq.2 = ([(⟨s.seller, s.fee⟩ : Share), ⟨s.seller, s.paid - s.fee⟩] ++ idxK (cutOf m l rides s) xq.1).map encS, fun xq => (cutOf m l rides s).length - xq.1, ⟨(0, _), ?_, [(0, 3)], ⟨⟨rfl, rfl⟩, ⟨rfl, rfl⟩, ⟨rfl, rfl⟩, ⟨rfl, rfl⟩, trivial⟩, ⟨⟨rfl, rfl, rfl⟩, trivial⟩, rfl, rfl, rfl⟩, ?_⟩
   · (try dsimp only); exact ⟨Nat.zero_le _, rfl⟩
   rintro ⟨k, es⟩ hk
   obtain ⟨hk, rfl⟩ : k ≤ (cutOf m l rides s).length ∧ es = ([(⟨s.seller, s.fee⟩ : Share), ⟨s.seller, s.paid - s.fee⟩] ++ idxK (cutOf m l rides s) k).map encS := hk
   (try dsimp only)
   have hel : (([(⟨s.seller, s.fee⟩ : Share), ⟨s.seller, s.paid - s.fee⟩] ++ idxK (cutOf m l rides s) k).map encS).length = ([(⟨s.seller, s.fee⟩ : Share), ⟨s.seller, s.paid - s.fee⟩] : List Share).length + k := by rw [List.length_map, List.length_append, idxK_len]
   by_cases hkl : k < (cutOf m l rides s).length
   · obtain ⟨x, hx⟩ := getElem_some hkl
     have hst : ([(⟨s.seller, s.fee⟩ : Share), ⟨s.seller, s.paid - s.fee⟩] ++ idxK (cutOf m l rides s) (k + 1)).map encS = ([(⟨s.seller, s.fee⟩ : Share), ⟨s.seller, s.paid - s.fee⟩] ++ idxK (cutOf m l rides s) k).map encS ++ [encS ⟨(k : Int) + 1, x⟩] := by rw [idxK_snoc hx, ← List.append_assoc, List.map_append]; rfl
     repeat' ((conv => whnf); first | (refine ⟨fun h => ?_, fun h => ?_⟩ <;> try (exfalso; first | omega | (revert h; decide) | exact h rfl)) | (refine ⟨by omega, fun r hrr => ?_⟩; first | ((have hre : r = e1 x := by (first | exact get_row hrr hx | fail)); subst hre)) | (refine ⟨(k + 1, _), ⟨?_, by (try dsimp only); omega⟩, [(0, 1)], ⟨⟨rfl, rfl⟩, ⟨rfl, rfl⟩, ⟨rfl, rfl⟩, ⟨rfl, rfl⟩, trivial⟩, ⟨⟨rfl, rfl, rfl⟩, trivial⟩, rfl, rfl, rfl⟩; (try dsimp only); exact ⟨by omega, hst.symm⟩) | refine ⟨⟨by omega, by omega⟩, ?_⟩ | (refine ⟨⟨by (simp only [List.length_cons, List.length_nil] at hel; simp only [List.length_cons, List.length_nil]; omega), by (simp only [List.length_cons, List.length_nil] at hel; simp only [List.length_cons, List.length_nil]; omega)⟩, ?_⟩) | (refine ⟨⟨by simp only [List.length_cons, List.length_nil]; omega, by simp only [List.length_cons, List.length_nil]; omega⟩, ?_⟩) | fail)
   · have hkn : k = (cutOf m l rides s).length := by omega
     subst hkn
     repeat' ((conv => whnf); first | (refine ⟨fun h => ?_, fun h => ?_⟩ <;> try (exfalso; first | omega | (revert h; decide) | exact h rfl)) | (refine ⟨rfl, _, add_h, (([(⟨s.seller, s.fee⟩ : Share), ⟨s.seller, s.paid - s.fee⟩] ++ idxK (cutOf m l rides s) (cutOf m l rides s).length), []), (by show (([(⟨s.seller, s.fee⟩ : Share), ⟨s.seller, s.paid - s.fee⟩] ++ idxK (cutOf m l rides s) (cutOf m l rides s).length).length ≤ 100000 ∧ ([] : List Share).length ≤ 100000) ∧ ∀ x ∈ ([(⟨s.seller, s.fee⟩ : Share), ⟨s.seller, s.paid - s.fee⟩] ++ idxK (cutOf m l rides s) (cutOf m l rides s).length) ++ [], okO x; rw [List.append_nil, hsh]; exact ⟨⟨by omega, by decide⟩, hs2⟩), ⟨leV_refl _, (show leV (.c .nil) (L 2 (([] : List Share).map encS)) from rfl), trivial⟩, trivial, ?_⟩; show norm (shift _ (addT ([(⟨s.seller, s.fee⟩ : Share), ⟨s.seller, s.paid - s.fee⟩] ++ idxK (cutOf m l rides s) (cutOf m l rides s).length) [])) _; rw [hadd]) | fail)
     all_goals exact ⟨[], rfl, trivial, rfl⟩
theorem of_h : Holds Tryz.prog 10 ofS := holds_of mix Tryz.func10 ofLow (fun _ => rfl) ofV
theorem amt_app (a b : List Share) (o : Int) : amt (a ++ b) o = amt a o + amt b o := by
 simp only [amt, List.map_append, List.sum_append]
theorem few_keys (p : List Share) : fewL p = ((keysL p).filter fun o => decide (amt p o ≠ 0)).map fun o => ⟨o, amt p o⟩ := by
 rw [fewL, tabL, List.filter_map]; rfl
theorem few_keysL (p : List Share) : ((keysL p).filter fun o => decide (amt p o ≠ 0)).Pairwise (· < ·) ∧ ∀ o, o ∈ (keysL p).filter (fun o => decide (amt p o ≠ 0)) ↔ amt p o ≠ 0 := by
 refine ⟨(keysL_spec p).1.sublist List.filter_sublist, fun o => ?_⟩
 rw [List.mem_filter, (keysL_spec p).2, decide_eq_true_eq]
 refine ⟨fun h => h.2, fun h => ⟨?_, h⟩⟩
 by_cases e : o ∈ p.map (·.o)
 · exact e
 · exact absurd (amt_out e) h
theorem few_ext {p q : List Share} (h : ∀ o, amt p o = amt q o) : fewL p = fewL q := by
 have hk : (keysL p).filter (fun o => decide (amt p o ≠ 0)) = (keysL q).filter fun o => decide (amt q o ≠ 0) :=
   lt_uniq (few_keysL p).1 (few_keysL q).1 fun z => by rw [(few_keysL p).2, (few_keysL q).2, h]
 rw [few_keys, few_keys, hk]
 exact List.map_congr_left fun o _ => by rw [h]
theorem amt_nz (o : Int) : ∀ l : List Share, amt (l.filter fun x => decide (x.a ≠ 0)) o = amt l o
 | [] => rfl
 | x :: r => by
   have ih := amt_nz o r
   rw [List.filter_cons]
   have e : ∀ t : List Share, amt (x :: t) o = (if x.o = o then x.a else 0) + amt t o := fun t => by simp only [amt, List.map_cons, List.sum_cons]
   split
   · rw [e, e, ih]
   · rename_i h
     simp at h
     rw [ih, e, h]; split <;> omega
theorem amt_keys {f : Int → Int} {o : Int} : ∀ {ks : List Int}, ks.Nodup → amt (ks.map fun k => ⟨k, f k⟩) o = if o ∈ ks then f o else 0
 | [], _ => rfl
 | y :: r, hn => by
   obtain ⟨h1, h2⟩ := List.nodup_cons.1 hn
   have e : amt ((y :: r).map fun k => (⟨k, f k⟩ : Share)) o = (if y = o then f y else 0) + amt (r.map fun k => (⟨k, f k⟩ : Share)) o := by simp only [amt, List.map_cons, List.sum_cons]
   rw [e, amt_keys h2]
   by_cases e : y = o
   · subst e; rw [if_pos rfl, if_neg h1, if_pos (by simp)]; omega
   · rw [if_neg e]
     by_cases h : o ∈ r
     · rw [if_pos h, if_pos (by simp [h])]; omega
     · rw [if_neg h, if_neg (by simp [h, Ne.symm e])]; omega
theorem amt_few (p : List Share) (o : Int) : amt (fewL p) o = amt p o := by
 rw [fewL, amt_nz, tabL, amt_keys ((keysL_spec p).1.imp fun h => by omega)]
 by_cases h : o ∈ keysL p
 · rw [if_pos h]
 · rw [if_neg h, amt_out fun e => h (((keysL_spec p).2 o).2 e)]
theorem few_app (a b : List Share) : fewL (fewL a ++ b) = fewL (a ++ b) := few_ext fun o => by rw [amt_app, amt_app, amt_few]
def sumA (p : List Share) : Int := (p.map fun x : Share => x.a).sum
theorem sumA_app (a b : List Share) : sumA (a ++ b) = sumA a + sumA b := by simp only [sumA, List.map_append, List.sum_append]
def Pos (p : List Share) : Prop := ∀ x ∈ p, 0 ≤ x.a
theorem Pos.app {a b : List Share} (h : Pos a) (k : Pos b) : Pos (a ++ b) := fun x hx => (List.mem_append.1 hx).elim (h x) (k x)
theorem Pos.left {a b : List Share} (h : Pos (a ++ b)) : Pos a := fun x hx => h x (List.mem_append.2 (.inl hx))
theorem Pos.right {a b : List Share} (h : Pos (a ++ b)) : Pos b := fun x hx => h x (List.mem_append.2 (.inr hx))
theorem Pos.amt : ∀ {p : List Share}, Pos p → ∀ o, 0 ≤ amt p o ∧ amt p o ≤ sumA p
 | [], _, o => ⟨Int.le_refl 0, Int.le_refl 0⟩
 | x :: r, h, o => by
   have h1 := Pos.amt (p := r) (fun y hy => h y (by simp [hy])) o
   have h2 := h x (by simp)
   simp only [sumA, Go.Proofs.YtjpdaapjnpdiiaaGreat.amt, List.map_cons, List.sum_cons] at h1 ⊢
   split <;> omega
theorem Pos.sum {p : List Share} (h : Pos p) : 0 ≤ sumA p := by have := h.amt 0; omega
theorem addO_pos : ∀ (r p : List Share), Pos p → Pos r → sumA p + sumA r ≤ 1099511627776 → addO p r = true
 | [], _, _, _, _ => rfl
 | x :: r, p, hp, hr, hs => by
   have h2 := hr x (by simp)
   have hr' : Pos r := fun y hy => hr y (by simp [hy])
   have hrs := hr'.sum
   have hpa := hp.amt x.o
   have hsx : sumA (x :: r) = x.a + sumA r := by simp only [sumA, List.map_cons, List.sum_cons]
   rw [addO, plusF, if_neg (by omega)]
   refine addO_pos r (p ++ [x]) (hp.app fun y hy => by simp at hy; subst hy; exact h2) hr' ?_
   have : sumA (p ++ [x]) = sumA p + x.a := by rw [sumA_app]; simp [sumA]
   omega
theorem Pos.few {p : List Share} (h : Pos p) : Pos (fewL p) := fun x hx => by
 rw [fewL] at hx
 have := tab_amt (List.mem_filter.1 hx).1
 rw [this]; exact (h.amt _).1
theorem sumA_few (p : List Share) : sumA (fewL p) = sumA p := few_sum p
theorem few_pos {p : List Share} (h : Pos p) {x : Share} (hx : x ∈ fewL p) : 1 ≤ x.a := by
 have h1 := h.few x hx
 have h2 := fewL_nz hx
 omega
theorem few_op {p : List Share} {x : Share} (hx : x ∈ fewL p) : x.o ∈ p.map (·.o) := by
 obtain ⟨o, ho, rfl⟩ := List.mem_map.1 (List.mem_filter.1 hx).1
 exact ((keysL_spec p).2 o).1 ho
theorem few_len (p : List Share) : (fewL p).length ≤ p.length := Nat.le_trans (List.length_filter_le ..) (tab_len p)
end Go.Proofs.YtjpdaapjnpdiiaaGreat
