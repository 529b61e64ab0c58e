/- A part of the proof. -/
import Derived.Test.YtjpdaapjnpdiiaaGreatQF1
import Derived.Test.YtjpdaapjnpdiiaaGreatE5
import Derived.Test.YtjpdaapjnpdiiaaGreatShelf
import Derived.Test.YtjpdaapjnpdiiaaGreatQShelf
namespace Go.Proofs.YtjpdaapjnpdiiaaGreat.P
open Go.RowKit
theorem swoT : Go.Sort.SWO (ltOf fun x y : {_x : Tfer // True} => cmpT x.1 y.1) := {
 irrefl := fun x => by simp only [ltOf, decide_eq_false_iff_not, cmpT_lt]; unfold keyLt; omega
 trans := fun x y z h1 h2 => by simp only [ltOf, decide_eq_true_eq, cmpT_lt] at *; unfold keyLt at *; omega
 ntrans := fun x y z h1 h2 => by simp only [ltOf, decide_eq_false_iff_not, cmpT_lt] at *; unfold keyLt at *; omega }
theorem sortT_h : HoldsM Tryz.prog 67 (sortM 97 3 encT 68 [] (fun _ => True) cmpT) :=
 haveI : Inhabited {_x : Tfer // True} := ⟨⟨⟨0, 0, 0⟩, trivial⟩⟩
 sort_holds (k := 3) (cR := encT) Tryz.sortT (fun _ => by kernel_rfl) (fun _ => by kernel_rfl) (fun x c hc => by simp [encT] at hc; rcases hc with rfl | rfl | rfl <;> rfl) (fun _ => rfl) cmpT swoT 68 [] (by kernel_rfl) (fun x F w vs _ hF hr => @order_h ⟨true⟩ x F w vs trivial hF hr) 97
def netIr : IFn := ⟨75, [.tmp 2], (zq [ zl 2 .mov [zx]] (zq [ zm 11 0, zo 12 (.call 64) [11], zm 0 12] (zq [ zm 14 0, zo 15 (.call 65) [14], zm 13 15, zo 16 (.extract 0) [13], zo 17 (.extract 1) [13], zm 3 16, zm 4 17] (zq [ zo 5 (.nilOwn 97 3) []] (zq [ zo 6 (.nilOwn 47 2) []] (zq [ zm 18 3, zo 19 .len [18], zl 20 (.bin .sub .i64 false) [.tmp 19, zi 1], zm 7 20] (.seq (.block 0 (.loop (.seq (zq [ zm 21 7, zl 22 (.cmp .neq) [.tmp 21, zi 0]] (.cond (.tmp 22) .skip (.exit 0))) (.block 1 (zq [ zm 23 4, zm 24 7, zo 25 (.idx 1) [23, 24], zo 26 (.load 1 false) [25], zm 8 26] (.seq (zq [ zm 27 3, zm 28 7, zo 29 (.idx 1)
 [27, 28], zo 30 (.load 1 false) [29], zl 31 (.cmp .eql) [.tmp 30, zi 0]] (.cond (.tmp 31) (zp [ zm 32 8, zl 33 (.bin .sub .i64 false) [.tmp 32, zi 1], zm 8 33]) .skip)) (.seq (zq [ zm 34 0, zo 35 .len [34], zl 36 .mov [zi 0]] (.block 2 (.loop (zq [ zo 37 (.cmp .lss) [36, 35]] (.seq (.cond (.tmp 37) .skip (.exit 2)) (.seq (.block 3 (zq [ zm 38 36, zm 9 38] (zq [ zm 39 7, zm 40 9, zl 41 (.bin .shl .i64 false) [zi 1, .tmp 40], zo 42 (.bin .andNot .i64 false) [39, 41], zm 10 42] (zq [ zm 43 10, zm 44 7, zo 45 (.cmp .neq) [43, 44], zm 46 45, zw 47 4 46 true, zw 48 10 46 true, zg 49 (.idx 1) [47, 48]
 46 true, zg 50 (.load 1 false) [49] 46 true, zw 51 8 46 true, zg 52 (.cmp .eql) [50, 51] 46 true, zl 53 .pick [.tmp 46, .tmp 52, zf]] (.cond (.tmp 53) (zq [ zm 54 6, zm 55 0, zm 56 9, zo 57 (.idx 2) [55, 56], zo 58 (.load 2 true) [57], zo 59 (.buildSl 47 2) [58], zo 60 (.append 47 2 16) [54, 59], zm 6 60] (zq [ zm 61 10, zm 7 61] (.exit 2))) .skip))))) (zp [ zl 62 (.bin .add .i64 false) [.tmp 36, zi 1], zm 36 62]))))))) (zq [ zm 63 3, zm 64 7, zo 65 (.idx 1) [63, 64], zo 66 (.load 1 false) [65], zl 67 (.cmp .eql) [.tmp 66, zi 0]] (.cond (.tmp 67) (zq [ zm 68 5, zm 69 6, zo 70 (.callg 66) [69],
 zo 71 (.append 97 3 24) [68, 70], zm 5 71] (zp [ zo 6 (.nilOwn 47 2) []])) .skip))))))))) (zq [ zm 72 5, zl 73 (.callm 67) [.tmp 72, .func 68]] (zq [ zm 74 5, zm 2 74] .ret)))))))))⟩
theorem netLow : lowF Tryz.prog { owns := [(5, 97), (6, 47)], gvs := [70], muts := [73] } Tryz.f38 = some netIr := by kernel_rfl
def netS : Spec := spec (List Share) (fun l => [L 2 (l.map encS)]) RightP (fun l => L 3 ((netF l).map encT))
set_option maxHeartbeats 2000000 in
theorem netV : fnV Tryz.prog netIr netS := by
 intro (l : List Share) hr
 have hn := nzl_nz hr
 have hf := nzl_few hr
 have h8 := hn.len
 have h256 := pow_le8 h8
 show vc _ _ _ _ ⟨argEnv 0 [L 2 (l.map encS)], [], 0⟩
 conv => whnf
 (refine ⟨_, needed_h, l, hr, leVs_of_eq rfl, .inl rfl, rfl, ?_⟩; show norm (L 2 ((nzl l).map encS)) _)
 conv => whnf
 (refine ⟨_, groups_h, nzl l, hf, leVs_of_eq rfl, .inl rfl, rfl, ?_⟩; show norm (.tup [L 1 (tabN (2 ^ (nzl l).length) (sumT (nzl l))), L 1 (tabN (2 ^ (nzl l).length) (mosT (nzl l)))]) _)
 have hsorted := @net_sorted l hr
 generalize hm : nzl l = m at *
 have hl : (m.map encS).length = m.length := List.length_map ..
 have hp : 0 < 2 ^ m.length := Nat.two_pow_pos _
 have hfull : full m.length + 1 = 2 ^ m.length := by unfold full; omega
 generalize hN : 2 ^ m.length = N at *
 have htl : (tabN N (sumT m)).length = N := tabN_len _ _
 have htl2 : (tabN N (mosT m)).length = N := tabN_len _ _
 repeat' ((conv => whnf); first | refine ⟨⟨by omega, by omega⟩, ?_⟩ | fail)
 rw [show ((tabN N (sumT m)).length : Int) - 1 = (full m.length : Nat) by omega]
 conv => whnf
 refine ⟨Nat × (List (List CV)) × (List (List CV)), fun xq => ⟨[(0, L 2 (m.map encS)), (3, L 1 (tabN N (sumT m))), (4, L 1 (tabN N (mosT m))), (5, .osl 0), (6, .osl 1), (7, I xq.1)], [(0, .row 97 3 xq.2.1), (1, .row 47 2 xq.2.2)], 2⟩, fun xq => ∃ s : PS, xq.1 = s.S ∧ (xq.2.1 = s.O.map encT ∧ xq.2.2 = s.G.map encS) ∧ NetI m s, fun xq => xq.1, ⟨(full m.length, _, _), ?_, [], ⟨⟨rfl, rfl⟩, ⟨rfl, rfl⟩, ⟨rfl, rfl⟩, ⟨rfl, rfl⟩, ⟨rfl, rfl⟩, ⟨rfl, rfl⟩, trivial⟩, ⟨⟨rfl, rfl, rfl⟩, ⟨rfl, rfl, rfl⟩, trivial⟩, rfl, rfl, rfl⟩, ?_⟩
 · (try dsimp only); exact ⟨_, rfl, ⟨rfl, rfl⟩, NetI.start hn⟩
 rintro ⟨S, es, gs⟩ hk
 obtain ⟨s, rfl, ⟨rfl, rfl⟩, hI⟩ : ∃ s : PS, S = s.S ∧ (es = s.O.map encT ∧ gs = s.G.map encS) ∧ NetI m s := hk
 (try dsimp only)
 have hlt := hI.inv.lt
 rw [hN] at hlt
 have hsz := hI.inv.sizes hn
 by_cases h0 : s.S = 0
 · have hO := hI.done h0
   conv => whnf
   refine ⟨fun h => absurd h (by omega), fun h => ?_⟩
   conv => whnf
   rw [hO]
   have hnl : (netO m).length ≤ 1000 := by rw [← hO]; omega
   refine ⟨_, sortT_h, netO m, ⟨fun _ _ => trivial, by omega⟩, ⟨rfl, rfl⟩, rfl, leVs_of_eq rfl, ?_⟩
   rintro _ ⟨t, rfl, hpm, hpw⟩
   conv => whnf
   refine ⟨[], rfl, trivial, ?_⟩
   show leV (L 3 (t.map encT)) (L 3 ((netF l).map encT))
   rw [(hsorted hpm (hpw.imp fun h h' => h ((cmpT_lt _ _).2 h'))).1]
   exact leV_refl _
 · have hmp := most_pos hn (by rw [hN]; exact hlt) h0
   have hmb := hf.most (S := s.S) (by rw [hN]; exact hlt)
   have hr1 : (0 : Int) ≤ mosT m s.S ∧ mosT m s.S ≤ 8 ∧ (zB (amt m) s.S : Int) ≤ mosT m s.S := ⟨by unfold mosT; omega, by unfold mosT; omega, by unfold mosT; omega⟩
   have hzb : (sumT m s.S = 0 ∧ zB (amt m) s.S = 1) ∨ (sumT m s.S ≠ 0 ∧ zB (amt m) s.S = 0) := by
     by_cases hz : sumB (amt m) s.S = 0
     · exact .inl ⟨hz, by unfold zB; rw [if_pos hz]⟩
     · exact .inr ⟨hz, by unfold zB; rw [if_neg hz]⟩
   have hlt' : s.S < 2 ^ m.length := by rw [hN]; exact hlt
   have hS8 : s.S < 256 := by omega
   rcases hzb with ⟨hz0, hz1⟩ | ⟨hz0, hz1⟩
   · obtain ⟨w, hw⟩ : ∃ w, mosT m s.S - 1 = w := ⟨_, rfl⟩
     have hwz : w = mosT m s.S - (zB (amt m) s.S : Nat) := by rw [hz1, ← hw]; rfl
     repeat' ((conv => whnf); first | (refine ⟨fun h => ?_, fun h => ?_⟩ <;> try (exfalso; first | omega | (revert h; decide) | exact h rfl)) | refine idx_tab (N := N) (H := mosT m) (j := s.S) rfl (by omega) ?_ | refine idx_tab (N := N) (H := sumT m) (j := s.S) rfl (by omega) ?_ | (refine ⟨⟨by omega, by omega⟩, ?_⟩; rw [hw]) | fail)
     conv => whnf
     refine ⟨Nat, fun xq => ⟨[(0, L 2 (m.map encS)), (3, L 1 (tabN N (sumT m))), (4, L 1 (tabN N (mosT m))), (5, .osl 0), (6, .osl 1), (7, I s.S), (8, I w), (35, I (m.map encS).length), (36, I xq)], [(0, .row 97 3 (s.O.map encT)), (1, .row 47 2 (s.G.map encS))], 2⟩, fun xq => xq ≤ m.length ∧ ∀ j, j < xq → pickP (amt m) s.S j = false, fun xq => m.length - xq, ⟨0, ?_, [], ⟨⟨rfl, rfl⟩, ⟨rfl, rfl⟩, ⟨rfl, rfl⟩, ⟨rfl, rfl⟩, ⟨rfl, rfl⟩, ⟨rfl, rfl⟩, ⟨rfl, rfl⟩, ⟨rfl, rfl⟩, ⟨rfl, rfl⟩, trivial⟩, ⟨⟨rfl, rfl, rfl⟩, ⟨rfl, rfl, rfl⟩, trivial⟩, rfl, rfl, rfl⟩, ?_⟩
     · (try dsimp only); exact ⟨Nat.zero_le _, fun j hj => by omega⟩
     rintro i hk
     obtain ⟨hi, hpn⟩ : i ≤ m.length ∧ ∀ j, j < i → pickP (amt m) s.S j = false := hk
     (try dsimp only)
     by_cases hil : i < m.length
     · obtain ⟨x, hx⟩ := getElem_some hil
       have hpi := pickP_int (i := i) hn hlt' h0
       rw [← hwz] at hpi
       cases hb : s.S.testBit i with
       | true =>
         rw [hb, Bool.true_and] at hpi
         have hclr := clr_yes (by omega) (by omega) hb
         have hTl := clr_lt (by omega) (by omega) hb
         by_cases hw2 : mosT m (s.S ^^^ 2 ^ i) = w
         · have hp : pickP (amt m) s.S i = true := by rw [hpi]; exact decide_eq_true hw2
           obtain ⟨st1, st2, _⟩ := hI.step hn h0 hx hp hpn
           by_cases hz : sumT m (s.S ^^^ 2 ^ i) = 0
           · obtain ⟨hI', hgr, hgd⟩ := st1 hz
             have hsl := (settleF_spec 9 (s.G ++ [x]) hgr hgd (by have := nzc_le (s.G ++ [x]); have := hgr.len; omega)).2.2
             have hsl2 := nzc_le (s.G ++ [x])
             have hsl3 := hgr.len
             have hsl4 : ((settleG (s.G ++ [x])).map encT).length ≤ 8 := by rw [List.length_map]; show (settleF 9 (s.G ++ [x])).length ≤ 8; omega
             repeat' ((conv => whnf); first | (refine ⟨fun h => ?_, fun h => ?_⟩ <;> try (exfalso; first | omega | (revert h; decide) | exact h rfl)) | (refine ⟨Int.natCast_nonneg _, ?_⟩) | refine idx_tab (N := N) (H := mosT m) (j := s.S ^^^ 2 ^ i) hclr (by omega) ?_ | refine idx_tab (N := N) (H := sumT m) (j := s.S ^^^ 2 ^ i) hclr (by omega) ?_ | refine idx_at hx ?_ | (refine ⟨⟨by simp only [List.length_map, List.length_cons, List.length_nil]; omega, by simp only [List.length_map, List.length_cons, List.length_nil]; omega⟩, ?_⟩) | fail)
             rw [hclr]
             refine ⟨[2], _, settle_g, s.G ++ [x], ⟨hgr, hgd⟩, ⟨⟨⟨(by show some (Ob.row _ _ (s.G.map encS ++ [encS x])) = some (Ob.row _ _ ((s.G ++ [x]).map encS)); rw [List.map_append]; rfl), rfl, rfl⟩, trivial⟩, rfl, rfl, rfl⟩, ⟨⟨rfl, rfl⟩, trivial⟩, .inl rfl, ⟨⟨trivial, trivial⟩, trivial⟩, ?_⟩
             conv => whnf
             refine ⟨⟨by rw [List.length_map]; omega, by rw [List.length_map]; omega⟩, ?_⟩
             conv => whnf
             (refine ⟨(s.S ^^^ 2 ^ i, _, _), ⟨?_, by (try dsimp only); omega⟩, [(0, 3), (1, 4)], ⟨⟨rfl, rfl⟩, ⟨rfl, rfl⟩, ⟨rfl, rfl⟩, ⟨rfl, rfl⟩, ⟨rfl, rfl⟩, ⟨rfl, rfl⟩, trivial⟩, ⟨⟨rfl, rfl, rfl⟩, ⟨rfl, rfl, rfl⟩, trivial⟩, rfl, rfl, rfl⟩; (try dsimp only); exact ⟨⟨s.S ^^^ 2 ^ i, [], s.O ++ settleG (s.G ++ [x])⟩, rfl, ⟨by rw [List.map_append], rfl⟩, hI'⟩)
           · have hI' := st2 hz
             repeat' ((conv => whnf); first | (refine ⟨fun h => ?_, fun h => ?_⟩ <;> try (exfalso; first | omega | (revert h; decide) | exact h rfl)) | (refine ⟨Int.natCast_nonneg _, ?_⟩) | refine idx_tab (N := N) (H := mosT m) (j := s.S ^^^ 2 ^ i) hclr (by omega) ?_ | refine idx_tab (N := N) (H := sumT m) (j := s.S ^^^ 2 ^ i) hclr (by omega) ?_ | refine idx_at hx ?_ | (refine ⟨⟨by simp only [List.length_map, List.length_cons, List.length_nil]; omega, by simp only [List.length_map, List.length_cons, List.length_nil]; omega⟩, ?_⟩) | fail)
             rw [hclr]
             (refine ⟨(s.S ^^^ 2 ^ i, _, _), ⟨?_, by (try dsimp only); omega⟩, [(0, 0), (1, 2)], ⟨⟨rfl, rfl⟩, ⟨rfl, rfl⟩, ⟨rfl, rfl⟩, ⟨rfl, rfl⟩, ⟨rfl, rfl⟩, ⟨rfl, rfl⟩, trivial⟩, ⟨⟨rfl, rfl, rfl⟩, ⟨rfl, rfl, rfl⟩, trivial⟩, rfl, rfl, rfl⟩; (try dsimp only); exact ⟨⟨s.S ^^^ 2 ^ i, s.G ++ [x], s.O⟩, rfl, ⟨rfl, by rw [List.map_append]; rfl⟩, hI'⟩)
         · have hp : pickP (amt m) s.S i = false := by rw [hpi]; exact decide_eq_false hw2
           repeat' ((conv => whnf); first | (refine ⟨i + 1, ⟨?_, by (try dsimp only); omega⟩, [], ⟨⟨rfl, rfl⟩, ⟨rfl, rfl⟩, ⟨rfl, rfl⟩, ⟨rfl, rfl⟩, ⟨rfl, rfl⟩, ⟨rfl, rfl⟩, ⟨rfl, rfl⟩, ⟨rfl, rfl⟩, ⟨rfl, rfl⟩, trivial⟩, ⟨⟨rfl, rfl, rfl⟩, ⟨rfl, rfl, rfl⟩, trivial⟩, rfl, rfl, rfl⟩; (try dsimp only); exact ⟨by omega, fun j hj => by by_cases e : j = i; (subst e; exact hp); exact hpn j (by omega)⟩) | (refine ⟨fun h => ?_, fun h => ?_⟩ <;> try (exfalso; first | omega | (revert h; decide) | exact h rfl)) | (refine ⟨Int.natCast_nonneg _, ?_⟩) | refine idx_tab (N := N) (H := mosT m) (j := s.S ^^^ 2 ^ i) hclr (by omega) ?_ | refine ⟨⟨by omega, by omega⟩, ?_⟩ | fail)
       | false =>
         rw [hb, Bool.false_and] at hpi
         have hclr := clr_no (by omega) (by omega) hb
         repeat' ((conv => whnf); first | (refine ⟨i + 1, ⟨?_, by (try dsimp only); omega⟩, [], ⟨⟨rfl, rfl⟩, ⟨rfl, rfl⟩, ⟨rfl, rfl⟩, ⟨rfl, rfl⟩, ⟨rfl, rfl⟩, ⟨rfl, rfl⟩, ⟨rfl, rfl⟩, ⟨rfl, rfl⟩, ⟨rfl, rfl⟩, trivial⟩, ⟨⟨rfl, rfl, rfl⟩, ⟨rfl, rfl, rfl⟩, trivial⟩, rfl, rfl, rfl⟩; (try dsimp only); exact ⟨by omega, fun j hj => by by_cases e : j = i; (subst e; exact hpi); exact hpn j (by omega)⟩) | (refine ⟨fun h => ?_, fun h => ?_⟩ <;> try (exfalso; first | omega | (revert h; decide) | exact h rfl)) | (refine ⟨Int.natCast_nonneg _, ?_⟩) | refine ⟨⟨by omega, by omega⟩, ?_⟩ | fail)
     · exact absurd (fun j hj => hpn j (by omega)) (pick_some hn hlt' h0)
   · obtain ⟨w, hw⟩ : ∃ w, mosT m s.S = w := ⟨_, rfl⟩
     have hwz : w = mosT m s.S - (zB (amt m) s.S : Nat) := by rw [hz1, ← hw]; simp
     repeat' ((conv => whnf); first | (refine ⟨fun h => ?_, fun h => ?_⟩ <;> try (exfalso; first | omega | (revert h; decide) | exact h rfl)) | (refine idx_tab (N := N) (H := mosT m) (j := s.S) rfl (by omega) ?_; rw [hw]) | refine idx_tab (N := N) (H := sumT m) (j := s.S) rfl (by omega) ?_ | refine ⟨⟨by omega, by omega⟩, ?_⟩ | fail)
     conv => whnf
     refine ⟨Nat, fun xq => ⟨[(0, L 2 (m.map encS)), (3, L 1 (tabN N (sumT m))), (4, L 1 (tabN N (mosT m))), (5, .osl 0), (6, .osl 1), (7, I s.S), (8, I w), (35, I (m.map encS).length), (36, I xq)], [(0, .row 97 3 (s.O.map encT)), (1, .row 47 2 (s.G.map encS))], 2⟩, fun xq => xq ≤ m.length ∧ ∀ j, j < xq → pickP (amt m) s.S j = false, fun xq => m.length - xq, ⟨0, ?_, [], ⟨⟨rfl, rfl⟩, ⟨rfl, rfl⟩, ⟨rfl, rfl⟩, ⟨rfl, rfl⟩, ⟨rfl, rfl⟩, ⟨rfl, rfl⟩, ⟨rfl, rfl⟩, ⟨rfl, rfl⟩, ⟨rfl, rfl⟩, trivial⟩, ⟨⟨rfl, rfl, rfl⟩, ⟨rfl, rfl, rfl⟩, trivial⟩, rfl, rfl, rfl⟩, ?_⟩
     · (try dsimp only); exact ⟨Nat.zero_le _, fun j hj => by omega⟩
     rintro i hk
     obtain ⟨hi, hpn⟩ : i ≤ m.length ∧ ∀ j, j < i → pickP (amt m) s.S j = false := hk
     (try dsimp only)
     by_cases hil : i < m.length
     · obtain ⟨x, hx⟩ := getElem_some hil
       have hpi := pickP_int (i := i) hn hlt' h0
       rw [← hwz] at hpi
       cases hb : s.S.testBit i with
       | true =>
         rw [hb, Bool.true_and] at hpi
         have hclr := clr_yes (by omega) (by omega) hb
         have hTl := clr_lt (by omega) (by omega) hb
         by_cases hw2 : mosT m (s.S ^^^ 2 ^ i) = w
         · have hp : pickP (amt m) s.S i = true := by rw [hpi]; exact decide_eq_true hw2
           obtain ⟨st1, st2, _⟩ := hI.step hn h0 hx hp hpn
           by_cases hz : sumT m (s.S ^^^ 2 ^ i) = 0
           · obtain ⟨hI', hgr, hgd⟩ := st1 hz
             have hsl := (settleF_spec 9 (s.G ++ [x]) hgr hgd (by have := nzc_le (s.G ++ [x]); have := hgr.len; omega)).2.2
             have hsl2 := nzc_le (s.G ++ [x])
             have hsl3 := hgr.len
             have hsl4 : ((settleG (s.G ++ [x])).map encT).length ≤ 8 := by rw [List.length_map]; show (settleF 9 (s.G ++ [x])).length ≤ 8; omega
             repeat' ((conv => whnf); first | (refine ⟨fun h => ?_, fun h => ?_⟩ <;> try (exfalso; first | omega | (revert h; decide) | exact h rfl)) | (refine ⟨Int.natCast_nonneg _, ?_⟩) | refine idx_tab (N := N) (H := mosT m) (j := s.S ^^^ 2 ^ i) hclr (by omega) ?_ | refine idx_tab (N := N) (H := sumT m) (j := s.S ^^^ 2 ^ i) hclr (by omega) ?_ | refine idx_at hx ?_ | (refine ⟨⟨by simp only [List.length_map, List.length_cons, List.length_nil]; omega, by simp only [List.length_map, List.length_cons, List.length_nil]; omega⟩, ?_⟩) | fail)
             rw [hclr]
             refine ⟨[2], _, settle_g, s.G ++ [x], ⟨hgr, hgd⟩, ⟨⟨⟨(by show some (Ob.row _ _ (s.G.map encS ++ [encS x])) = some (Ob.row _ _ ((s.G ++ [x]).map encS)); rw [List.map_append]; rfl), rfl, rfl⟩, trivial⟩, rfl, rfl, rfl⟩, ⟨⟨rfl, rfl⟩, trivial⟩, .inl rfl, ⟨⟨trivial, trivial⟩, trivial⟩, ?_⟩
             conv => whnf
             refine ⟨⟨by rw [List.length_map]; omega, by rw [List.length_map]; omega⟩, ?_⟩
             conv => whnf
             (refine ⟨(s.S ^^^ 2 ^ i, _, _), ⟨?_, by (try dsimp only); omega⟩, [(0, 3), (1, 4)], ⟨⟨rfl, rfl⟩, ⟨rfl, rfl⟩, ⟨rfl, rfl⟩, ⟨rfl, rfl⟩, ⟨rfl, rfl⟩, ⟨rfl, rfl⟩, trivial⟩, ⟨⟨rfl, rfl, rfl⟩, ⟨rfl, rfl, rfl⟩, trivial⟩, rfl, rfl, rfl⟩; (try dsimp only); exact ⟨⟨s.S ^^^ 2 ^ i, [], s.O ++ settleG (s.G ++ [x])⟩, rfl, ⟨by rw [List.map_append], rfl⟩, hI'⟩)
           · have hI' := st2 hz
             repeat' ((conv => whnf); first | (refine ⟨fun h => ?_, fun h => ?_⟩ <;> try (exfalso; first | omega | (revert h; decide) | exact h rfl)) | (refine ⟨Int.natCast_nonneg _, ?_⟩) | refine idx_tab (N := N) (H := mosT m) (j := s.S ^^^ 2 ^ i) hclr (by omega) ?_ | refine idx_tab (N := N) (H := sumT m) (j := s.S ^^^ 2 ^ i) hclr (by omega) ?_ | refine idx_at hx ?_ | (refine ⟨⟨by simp only [List.length_map, List.length_cons, List.length_nil]; omega, by simp only [List.length_map, List.length_cons, List.length_nil]; omega⟩, ?_⟩) | fail)
             rw [hclr]
             (refine ⟨(s.S ^^^ 2 ^ i, _, _), ⟨?_, by (try dsimp only); omega⟩, [(0, 0), (1, 2)], ⟨⟨rfl, rfl⟩, ⟨rfl, rfl⟩, ⟨rfl, rfl⟩, ⟨rfl, rfl⟩, ⟨rfl, rfl⟩, ⟨rfl, rfl⟩, trivial⟩, ⟨⟨rfl, rfl, rfl⟩, ⟨rfl, rfl, rfl⟩, trivial⟩, rfl, rfl, rfl⟩; (try dsimp only); exact ⟨⟨s.S ^^^ 2 ^ i, s.G ++ [x], s.O⟩, rfl, ⟨rfl, by rw [List.map_append]; rfl⟩, hI'⟩)
         · have hp : pickP (amt m) s.S i = false := by rw [hpi]; exact decide_eq_false hw2
           repeat' ((conv => whnf); first | (refine ⟨i + 1, ⟨?_, by (try dsimp only); omega⟩, [], ⟨⟨rfl, rfl⟩, ⟨rfl, rfl⟩, ⟨rfl, rfl⟩, ⟨rfl, rfl⟩, ⟨rfl, rfl⟩, ⟨rfl, rfl⟩, ⟨rfl, rfl⟩, ⟨rfl, rfl⟩, ⟨rfl, rfl⟩, trivial⟩, ⟨⟨rfl, rfl, rfl⟩, ⟨rfl, rfl, rfl⟩, trivial⟩, rfl, rfl, rfl⟩; (try dsimp only); exact ⟨by omega, fun j hj => by by_cases e : j = i; (subst e; exact hp); exact hpn j (by omega)⟩) | (refine ⟨fun h => ?_, fun h => ?_⟩ <;> try (exfalso; first | omega | (revert h; decide) | exact h rfl)) | (refine ⟨Int.natCast_nonneg _, ?_⟩) | refine idx_tab (N := N) (H := mosT m) (j := s.S ^^^ 2 ^ i) hclr (by omega) ?_ | refine ⟨⟨by omega, by omega⟩, ?_⟩ | fail)
       | false =>
         rw [hb, Bool.false_and] at hpi
         have hclr := clr_no (by omega) (by omega) hb
         repeat' ((conv => whnf); first | (refine ⟨i + 1, ⟨?_, by (try dsimp only); omega⟩, [], ⟨⟨rfl, rfl⟩, ⟨rfl, rfl⟩, ⟨rfl, rfl⟩, ⟨rfl, rfl⟩, ⟨rfl, rfl⟩, ⟨rfl, rfl⟩, ⟨rfl, rfl⟩, ⟨rfl, rfl⟩, ⟨rfl, rfl⟩, trivial⟩, ⟨⟨rfl, rfl, rfl⟩, ⟨rfl, rfl, rfl⟩, trivial⟩, rfl, rfl, rfl⟩; (try dsimp only); exact ⟨by omega, fun j hj => by by_cases e : j = i; (subst e; exact hpi); exact hpn j (by omega)⟩) | (refine ⟨fun h => ?_, fun h => ?_⟩ <;> try (exfalso; first | omega | (revert h; decide) | exact h rfl)) | (refine ⟨Int.natCast_nonneg _, ?_⟩) | refine ⟨⟨by omega, by omega⟩, ?_⟩ | fail)
     · exact absurd (fun j hj => hpn j (by omega)) (pick_some hn hlt' h0)
theorem net_h : Holds Tryz.prog 38 netS := holds_of mix Tryz.func38 netLow (fun _ => rfl) netV
end Go.Proofs.YtjpdaapjnpdiiaaGreat.P
