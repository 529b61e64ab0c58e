/- Netting: Net. -/
import Derived.Test.YtpkhannkbafimaaGreatF8
import Derived.Test.YtpkhannkbafimaaGreatE5
import Derived.Test.YtpkhannkbafimaaGreatShelf
namespace Go.Proofs.YtpkhannkbafimaaGreat
open Go.RowKit
theorem swoT : Go.Sort.SWO (ltOf fun x y : {_x : Tfer // True} => cmpT x.1 y.1) := {
  irrefl := fun x => by simp only [ltOf, decide_eq_false_iff_not, cmpT_lt]; unfold keyLt; omega
  trans := fun x y z h1 h2 => by simp only [ltOf, decide_eq_true_eq, cmpT_lt] at *; unfold keyLt at *; omega
  ntrans := fun x y z h1 h2 => by simp only [ltOf, decide_eq_false_iff_not, cmpT_lt] at *; unfold keyLt at *; omega }
theorem sortT_h : HoldsM Tryz.prog 89 (sortM 68 3 encT 90 [] (fun _ => True) cmpT) :=
  haveI : Inhabited {_x : Tfer // True} := ⟨⟨⟨0, 0, 0⟩, trivial⟩⟩
  sort_holds (k := 3) (cR := encT) Tryz.sortT (fun _ => by kernel_rfl) (fun _ => by kernel_rfl) (fun x c hc => by simp [encT] at hc; rcases hc with rfl | rfl | rfl <;> rfl) (fun _ => rfl) cmpT swoT 90 [] (by kernel_rfl) (fun x F w vs _ hF hr => @order_h ⟨true⟩ x F w vs trivial hF hr) 68

/-! skiarea/netting.Net -/
def netIr : IFn := ⟨75, [.tmp 2],
 (.seq (.ops [
 ⟨(some 2), .mov, [.const (.slice none 0 0)], none⟩] false)
 (.seq (.ops [
 ⟨(some 11), .mov, [.tmp 0], none⟩,
 ⟨(some 12), .call 68, [.tmp 11], none⟩,
 ⟨(some 0), .mov, [.tmp 12], none⟩] false)
 (.seq (.ops [
 ⟨(some 14), .mov, [.tmp 0], none⟩,
 ⟨(some 15), .call 69, [.tmp 14], none⟩,
 ⟨(some 13), .mov, [.tmp 15], none⟩,
 ⟨(some 16), .extract 0, [.tmp 13], none⟩,
 ⟨(some 17), .extract 1, [.tmp 13], none⟩,
 ⟨(some 3), .mov, [.tmp 16], none⟩,
 ⟨(some 4), .mov, [.tmp 17], none⟩] false)
 (.seq (.ops [
 ⟨(some 5), .nilOwn 68 3, [], none⟩] false)
 (.seq (.ops [
 ⟨(some 6), .nilOwn 58 2, [], none⟩] false)
 (.seq (.ops [
 ⟨(some 18), .mov, [.tmp 3], none⟩,
 ⟨(some 19), .len, [.tmp 18], none⟩,
 ⟨(some 20), .bin .sub .i64 false, [.tmp 19, .const (.int .i64 1)], none⟩,
 ⟨(some 7), .mov, [.tmp 20], none⟩] false)
 (.seq (.block 0
 (.loop
 (.seq (.seq (.ops [
 ⟨(some 21), .mov, [.tmp 7], none⟩,
 ⟨(some 22), .cmp .neq, [.tmp 21, .const (.int .i64 0)], none⟩] false)
 (.cond (.tmp 22)
 .skip
 (.exit 0)))
 (.block 1
 (.seq (.ops [
 ⟨(some 23), .mov, [.tmp 4], none⟩,
 ⟨(some 24), .mov, [.tmp 7], none⟩,
 ⟨(some 25), .idx 1, [.tmp 23, .tmp 24], none⟩,
 ⟨(some 26), .load 1 false, [.tmp 25], none⟩,
 ⟨(some 8), .mov, [.tmp 26], none⟩] false)
 (.seq (.seq (.ops [
 ⟨(some 27), .mov, [.tmp 3], none⟩,
 ⟨(some 28), .mov, [.tmp 7], none⟩,
 ⟨(some 29), .idx 1, [.tmp 27, .tmp 28], none⟩,
 ⟨(some 30), .load 1 false, [.tmp 29], none⟩,
 ⟨(some 31), .cmp .eql, [.tmp 30, .const (.int .i64 0)], none⟩] false)
 (.cond (.tmp 31)
 (.ops [
 ⟨(some 32), .mov, [.tmp 8], none⟩,
 ⟨(some 33), .bin .sub .i64 false, [.tmp 32, .const (.int .i64 1)], none⟩,
 ⟨(some 8), .mov, [.tmp 33], none⟩] false)
 .skip))
 (.seq (.seq (.ops [
 ⟨(some 34), .mov, [.tmp 0], none⟩,
 ⟨(some 35), .len, [.tmp 34], none⟩,
 ⟨(some 36), .mov, [.const (.int .i64 0)], none⟩] false)
 (.block 2
 (.loop
 (.seq (.ops [
 ⟨(some 37), .cmp .lss, [.tmp 36, .tmp 35], none⟩] false)
 (.seq (.cond (.tmp 37)
 .skip
 (.exit 2))
 (.seq (.block 3
 (.seq (.ops [
 ⟨(some 38), .mov, [.tmp 36], none⟩,
 ⟨(some 9), .mov, [.tmp 38], none⟩] false)
 (.seq (.ops [
 ⟨(some 39), .mov, [.tmp 7], none⟩,
 ⟨(some 40), .mov, [.tmp 9], none⟩,
 ⟨(some 41), .bin .shl .i64 false, [.const (.int .i64 1), .tmp 40], none⟩,
 ⟨(some 42), .bin .andNot .i64 false, [.tmp 39, .tmp 41], none⟩,
 ⟨(some 10), .mov, [.tmp 42], none⟩] false)
 (.seq (.ops [
 ⟨(some 43), .mov, [.tmp 10], none⟩,
 ⟨(some 44), .mov, [.tmp 7], none⟩,
 ⟨(some 45), .cmp .neq, [.tmp 43, .tmp 44], none⟩,
 ⟨(some 46), .mov, [.tmp 45], none⟩,
 ⟨(some 47), .mov, [.tmp 4], (some (46, true))⟩,
 ⟨(some 48), .mov, [.tmp 10], (some (46, true))⟩,
 ⟨(some 49), .idx 1, [.tmp 47, .tmp 48], (some (46, true))⟩,
 ⟨(some 50), .load 1 false, [.tmp 49], (some (46, true))⟩,
 ⟨(some 51), .mov, [.tmp 8], (some (46, true))⟩,
 ⟨(some 52), .cmp .eql, [.tmp 50, .tmp 51], (some (46, true))⟩,
 ⟨(some 53), .pick, [.tmp 46, .tmp 52, .const (.bool false)], none⟩] false)
 (.cond (.tmp 53)
 (.seq (.ops [
 ⟨(some 54), .mov, [.tmp 6], none⟩,
 ⟨(some 55), .mov, [.tmp 0], none⟩,
 ⟨(some 56), .mov, [.tmp 9], none⟩,
 ⟨(some 57), .idx 2, [.tmp 55, .tmp 56], none⟩,
 ⟨(some 58), .load 2 true, [.tmp 57], none⟩,
 ⟨(some 59), .buildSl 58 2, [.tmp 58], none⟩,
 ⟨(some 60), .append 58 2 16, [.tmp 54, .tmp 59], none⟩,
 ⟨(some 6), .mov, [.tmp 60], none⟩] false)
 (.seq (.ops [
 ⟨(some 61), .mov, [.tmp 10], none⟩,
 ⟨(some 7), .mov, [.tmp 61], none⟩] false)
 (.exit 2)))
 .skip)))))
 (.ops [
 ⟨(some 62), .bin .add .i64 false, [.tmp 36, .const (.int .i64 1)], none⟩,
 ⟨(some 36), .mov, [.tmp 62], none⟩] false)))))))
 (.seq (.ops [
 ⟨(some 63), .mov, [.tmp 3], none⟩,
 ⟨(some 64), .mov, [.tmp 7], none⟩,
 ⟨(some 65), .idx 1, [.tmp 63, .tmp 64], none⟩,
 ⟨(some 66), .load 1 false, [.tmp 65], none⟩,
 ⟨(some 67), .cmp .eql, [.tmp 66, .const (.int .i64 0)], none⟩] false)
 (.cond (.tmp 67)
 (.seq (.ops [
 ⟨(some 68), .mov, [.tmp 5], none⟩,
 ⟨(some 69), .mov, [.tmp 6], none⟩,
 ⟨(some 70), .callg 88, [.tmp 69], none⟩,
 ⟨(some 71), .append 68 3 24, [.tmp 68, .tmp 70], none⟩,
 ⟨(some 5), .mov, [.tmp 71], none⟩] false)
 (.ops [
 ⟨(some 6), .nilOwn 58 2, [], none⟩] false))
 .skip)))))))))
 (.seq (.ops [
 ⟨(some 72), .mov, [.tmp 5], none⟩,
 ⟨(some 73), .callm 89, [.tmp 72, .func 90], none⟩] false)
 (.seq (.ops [
 ⟨(some 74), .mov, [.tmp 5], none⟩,
 ⟨(some 2), .mov, [.tmp 74], none⟩] false)
 .ret)))))))))⟩
theorem netLow : lowF Tryz.prog { owns := [(5, 68), (6, 58)], gvs := [70], muts := [73] } Tryz.f63 = some netIr := by kernel_rfl
def netS : Spec := spec (List Share) (fun l => [L 2 (l.map encS)]) RightP (fun l => L 3 ((netF l).map encT))
set_option maxHeartbeats 2000000 in
theorem netV : fnV Tryz.prog netIr netS := by
  intro (l : List Share) hr
  have hn := nzl_nz hr
  have hf := nzl_few hr
  have h8 := hn.len
  have h256 := pow_le8 h8
  show vc _ _ _ _ ⟨argEnv 0 [L 2 (l.map encS)], [], 0⟩
  conv => whnf
  (refine ⟨_, needed_h, l, hr, leVs_of_eq rfl, .inl rfl, rfl, ?_⟩; show norm (L 2 ((nzl l).map encS)) _)
  conv => whnf
  (refine ⟨_, groups_h, nzl l, hf, leVs_of_eq rfl, .inl rfl, rfl, ?_⟩; show norm (.tup [L 1 (tabN (2 ^ (nzl l).length) (sumT (nzl l))), L 1 (tabN (2 ^ (nzl l).length) (mosT (nzl l)))]) _)
  have hsorted := @net_sorted l hr
  generalize hm : nzl l = m at *
  have hl : (m.map encS).length = m.length := List.length_map ..
  have hp : 0 < 2 ^ m.length := Nat.two_pow_pos _
  have hfull : full m.length + 1 = 2 ^ m.length := by unfold full; omega
  generalize hN : 2 ^ m.length = N at *
  have htl : (tabN N (sumT m)).length = N := tabN_len _ _
  have htl2 : (tabN N (mosT m)).length = N := tabN_len _ _
  repeat' ((conv => whnf); first | refine ⟨⟨by omega, by omega⟩, ?_⟩ | fail)
  rw [show ((tabN N (sumT m)).length : Int) - 1 = (full m.length : Nat) by omega]
  conv => whnf
  refine ⟨Nat × (List (List CV)) × (List (List CV)), fun xq => ⟨[(0, L 2 (m.map encS)), (3, L 1 (tabN N (sumT m))), (4, L 1 (tabN N (mosT m))), (5, .osl 0), (6, .osl 1), (7, I xq.1)], [(0, .row 68 3 xq.2.1), (1, .row 58 2 xq.2.2)], 2⟩, fun xq => ∃ s : PS, xq.1 = s.S ∧ (xq.2.1 = s.O.map encT ∧ xq.2.2 = s.G.map encS) ∧ NetI m s, fun xq => xq.1, ⟨(full m.length, _, _), ?_, [], ⟨⟨rfl, rfl⟩, ⟨⟨rfl, rfl⟩, ⟨⟨rfl, rfl⟩, ⟨⟨rfl, rfl⟩, ⟨⟨rfl, rfl⟩, ⟨⟨rfl, rfl⟩, trivial⟩⟩⟩⟩⟩⟩, ⟨⟨rfl, rfl, rfl⟩, ⟨⟨rfl, rfl, rfl⟩, trivial⟩⟩, rfl, rfl, rfl⟩, ?_⟩
  · (try dsimp only); exact ⟨_, rfl, ⟨rfl, rfl⟩, NetI.start hn⟩
  rintro ⟨S, es, gs⟩ hk
  obtain ⟨s, rfl, ⟨rfl, rfl⟩, hI⟩ : ∃ s : PS, S = s.S ∧ (es = s.O.map encT ∧ gs = s.G.map encS) ∧ NetI m s := hk
  (try dsimp only)
  have hlt := hI.inv.lt
  rw [hN] at hlt
  have hsz := hI.inv.sizes hn
  by_cases h0 : s.S = 0
  · have hO := hI.done h0
    conv => whnf
    refine ⟨fun h => absurd h (by omega), fun h => ?_⟩
    conv => whnf
    rw [hO]
    have hnl : (netO m).length ≤ 1000 := by rw [← hO]; omega
    refine ⟨_, sortT_h, netO m, ⟨fun _ _ => trivial, by omega⟩, ⟨rfl, rfl⟩, rfl, leVs_of_eq rfl, ?_⟩
    rintro _ ⟨t, rfl, hpm, hpw⟩
    conv => whnf
    refine ⟨[], rfl, trivial, ?_⟩
    show leV (L 3 (t.map encT)) (L 3 ((netF l).map encT))
    rw [(hsorted hpm (hpw.imp fun h h' => h ((cmpT_lt _ _).2 h'))).1]
    exact leV_refl _
  · have hmp := most_pos hn (by rw [hN]; exact hlt) h0
    have hmb := hf.most (S := s.S) (by rw [hN]; exact hlt)
    have hr1 : (0 : Int) ≤ mosT m s.S ∧ mosT m s.S ≤ 8 ∧ (zB (amt m) s.S : Int) ≤ mosT m s.S := ⟨by unfold mosT; omega, by unfold mosT; omega, by unfold mosT; omega⟩
    have hzb : (sumT m s.S = 0 ∧ zB (amt m) s.S = 1) ∨ (sumT m s.S ≠ 0 ∧ zB (amt m) s.S = 0) := by
      by_cases hz : sumB (amt m) s.S = 0
      · exact .inl ⟨hz, by unfold zB; rw [if_pos hz]⟩
      · exact .inr ⟨hz, by unfold zB; rw [if_neg hz]⟩
    have hlt' : s.S < 2 ^ m.length := by rw [hN]; exact hlt
    have hS8 : s.S < 256 := by omega
    rcases hzb with ⟨hz0, hz1⟩ | ⟨hz0, hz1⟩
    · obtain ⟨w, hw⟩ : ∃ w, mosT m s.S - 1 = w := ⟨_, rfl⟩
      have hwz : w = mosT m s.S - (zB (amt m) s.S : Nat) := by rw [hz1, ← hw]; rfl
      repeat' ((conv => whnf); first | (refine ⟨fun h => ?_, fun h => ?_⟩ <;> try (exfalso; first | omega | exact absurd h (by decide) | exact h rfl)) | refine idx_tab (N := N) (H := mosT m) (j := s.S) rfl (by omega) ?_ | refine idx_tab (N := N) (H := sumT m) (j := s.S) rfl (by omega) ?_ | (refine ⟨⟨by omega, by omega⟩, ?_⟩; rw [hw]) | fail)
      conv => whnf
      refine ⟨Nat, fun xq => ⟨[(0, L 2 (m.map encS)), (3, L 1 (tabN N (sumT m))), (4, L 1 (tabN N (mosT m))), (5, .osl 0), (6, .osl 1), (7, I s.S), (8, I w), (35, I (m.map encS).length), (36, I xq)], [(0, .row 68 3 (s.O.map encT)), (1, .row 58 2 (s.G.map encS))], 2⟩, fun xq => xq ≤ m.length ∧ ∀ j, j < xq → pickP (amt m) s.S j = false, fun xq => m.length - xq, ⟨0, ?_, [], ⟨⟨rfl, rfl⟩, ⟨⟨rfl, rfl⟩, ⟨⟨rfl, rfl⟩, ⟨⟨rfl, rfl⟩, ⟨⟨rfl, rfl⟩, ⟨⟨rfl, rfl⟩, ⟨⟨rfl, rfl⟩, ⟨⟨rfl, rfl⟩, ⟨⟨rfl, rfl⟩, trivial⟩⟩⟩⟩⟩⟩⟩⟩⟩, ⟨⟨rfl, rfl, rfl⟩, ⟨⟨rfl, rfl, rfl⟩, trivial⟩⟩, rfl, rfl, rfl⟩, ?_⟩
      · (try dsimp only); exact ⟨Nat.zero_le _, fun j hj => by omega⟩
      rintro i hk
      obtain ⟨hi, hpn⟩ : i ≤ m.length ∧ ∀ j, j < i → pickP (amt m) s.S j = false := hk
      (try dsimp only)
      by_cases hil : i < m.length
      · obtain ⟨x, hx⟩ := getElem_some hil
        have hpi := pickP_int (i := i) hn hlt' h0
        rw [← hwz] at hpi
        cases hb : s.S.testBit i with
        | true =>
          rw [hb, Bool.true_and] at hpi
          have hclr := clr_yes (by omega) (by omega) hb
          have hTl := clr_lt (by omega) (by omega) hb
          by_cases hw2 : mosT m (s.S ^^^ 2 ^ i) = w
          · have hp : pickP (amt m) s.S i = true := by rw [hpi]; exact decide_eq_true hw2
            obtain ⟨st1, st2, _⟩ := hI.step hn h0 hx hp hpn
            by_cases hz : sumT m (s.S ^^^ 2 ^ i) = 0
            · obtain ⟨hI', hgr, hgd⟩ := st1 hz
              have hsl := (settleF_spec 9 (s.G ++ [x]) hgr hgd (by have := nzc_le (s.G ++ [x]); have := hgr.len; omega)).2.2
              have hsl2 := nzc_le (s.G ++ [x])
              have hsl3 := hgr.len
              have hsl4 : ((settleG (s.G ++ [x])).map encT).length ≤ 8 := by rw [List.length_map]; show (settleF 9 (s.G ++ [x])).length ≤ 8; omega
              repeat' ((conv => whnf); first | (refine ⟨fun h => ?_, fun h => ?_⟩ <;> try (exfalso; first | omega | exact absurd h (by decide) | exact h rfl)) | (refine ⟨Int.natCast_nonneg _, ?_⟩) | refine idx_tab (N := N) (H := mosT m) (j := s.S ^^^ 2 ^ i) hclr (by omega) ?_ | refine idx_tab (N := N) (H := sumT m) (j := s.S ^^^ 2 ^ i) hclr (by omega) ?_ | refine idx_at hx ?_ | (refine ⟨⟨by simp only [List.length_map, List.length_cons, List.length_nil]; omega, by simp only [List.length_map, List.length_cons, List.length_nil]; omega⟩, ?_⟩) | fail)
              rw [hclr]
              refine ⟨[2], _, settle_g, s.G ++ [x], ⟨hgr, hgd⟩, ⟨⟨⟨(by show some (Ob.row _ _ (s.G.map encS ++ [encS x])) = some (Ob.row _ _ ((s.G ++ [x]).map encS)); rw [List.map_append]; rfl), rfl, rfl⟩, trivial⟩, rfl, rfl, rfl⟩, ⟨⟨rfl, rfl⟩, trivial⟩, .inl rfl, ⟨⟨trivial, trivial⟩, trivial⟩, ?_⟩
              conv => whnf
              refine ⟨⟨by rw [List.length_map]; omega, by rw [List.length_map]; omega⟩, ?_⟩
              conv => whnf
              (refine ⟨(s.S ^^^ 2 ^ i, _, _), ⟨?_, by (try dsimp only); omega⟩, [(0, 3), (1, 4)], ⟨⟨rfl, rfl⟩, ⟨⟨rfl, rfl⟩, ⟨⟨rfl, rfl⟩, ⟨⟨rfl, rfl⟩, ⟨⟨rfl, rfl⟩, ⟨⟨rfl, rfl⟩, trivial⟩⟩⟩⟩⟩⟩, ⟨⟨rfl, rfl, rfl⟩, ⟨⟨rfl, rfl, rfl⟩, trivial⟩⟩, rfl, rfl, rfl⟩; (try dsimp only); exact ⟨⟨s.S ^^^ 2 ^ i, [], s.O ++ settleG (s.G ++ [x])⟩, rfl, ⟨by rw [List.map_append], rfl⟩, hI'⟩)
            · have hI' := st2 hz
              repeat' ((conv => whnf); first | (refine ⟨fun h => ?_, fun h => ?_⟩ <;> try (exfalso; first | omega | exact absurd h (by decide) | exact h rfl)) | (refine ⟨Int.natCast_nonneg _, ?_⟩) | refine idx_tab (N := N) (H := mosT m) (j := s.S ^^^ 2 ^ i) hclr (by omega) ?_ | refine idx_tab (N := N) (H := sumT m) (j := s.S ^^^ 2 ^ i) hclr (by omega) ?_ | refine idx_at hx ?_ | (refine ⟨⟨by simp only [List.length_map, List.length_cons, List.length_nil]; omega, by simp only [List.length_map, List.length_cons, List.length_nil]; omega⟩, ?_⟩) | fail)
              rw [hclr]
              (refine ⟨(s.S ^^^ 2 ^ i, _, _), ⟨?_, by (try dsimp only); omega⟩, [(0, 0), (1, 2)], ⟨⟨rfl, rfl⟩, ⟨⟨rfl, rfl⟩, ⟨⟨rfl, rfl⟩, ⟨⟨rfl, rfl⟩, ⟨⟨rfl, rfl⟩, ⟨⟨rfl, rfl⟩, trivial⟩⟩⟩⟩⟩⟩, ⟨⟨rfl, rfl, rfl⟩, ⟨⟨rfl, rfl, rfl⟩, trivial⟩⟩, rfl, rfl, rfl⟩; (try dsimp only); exact ⟨⟨s.S ^^^ 2 ^ i, s.G ++ [x], s.O⟩, rfl, ⟨rfl, by rw [List.map_append]; rfl⟩, hI'⟩)
          · have hp : pickP (amt m) s.S i = false := by rw [hpi]; exact decide_eq_false hw2
            repeat' ((conv => whnf); first | (refine ⟨i + 1, ⟨?_, by (try dsimp only); omega⟩, [], ⟨⟨rfl, rfl⟩, ⟨⟨rfl, rfl⟩, ⟨⟨rfl, rfl⟩, ⟨⟨rfl, rfl⟩, ⟨⟨rfl, rfl⟩, ⟨⟨rfl, rfl⟩, ⟨⟨rfl, rfl⟩, ⟨⟨rfl, rfl⟩, ⟨⟨rfl, rfl⟩, trivial⟩⟩⟩⟩⟩⟩⟩⟩⟩, ⟨⟨rfl, rfl, rfl⟩, ⟨⟨rfl, rfl, rfl⟩, trivial⟩⟩, rfl, rfl, rfl⟩; (try dsimp only); exact ⟨by omega, fun j hj => by by_cases e : j = i; (subst e; exact hp); exact hpn j (by omega)⟩) | (refine ⟨fun h => ?_, fun h => ?_⟩ <;> try (exfalso; first | omega | exact absurd h (by decide) | exact h rfl)) | (refine ⟨Int.natCast_nonneg _, ?_⟩) | refine idx_tab (N := N) (H := mosT m) (j := s.S ^^^ 2 ^ i) hclr (by omega) ?_ | refine ⟨⟨by omega, by omega⟩, ?_⟩ | fail)
        | false =>
          rw [hb, Bool.false_and] at hpi
          have hclr := clr_no (by omega) (by omega) hb
          repeat' ((conv => whnf); first | (refine ⟨i + 1, ⟨?_, by (try dsimp only); omega⟩, [], ⟨⟨rfl, rfl⟩, ⟨⟨rfl, rfl⟩, ⟨⟨rfl, rfl⟩, ⟨⟨rfl, rfl⟩, ⟨⟨rfl, rfl⟩, ⟨⟨rfl, rfl⟩, ⟨⟨rfl, rfl⟩, ⟨⟨rfl, rfl⟩, ⟨⟨rfl, rfl⟩, trivial⟩⟩⟩⟩⟩⟩⟩⟩⟩, ⟨⟨rfl, rfl, rfl⟩, ⟨⟨rfl, rfl, rfl⟩, trivial⟩⟩, rfl, rfl, rfl⟩; (try dsimp only); exact ⟨by omega, fun j hj => by by_cases e : j = i; (subst e; exact hpi); exact hpn j (by omega)⟩) | (refine ⟨fun h => ?_, fun h => ?_⟩ <;> try (exfalso; first | omega | exact absurd h (by decide) | exact h rfl)) | (refine ⟨Int.natCast_nonneg _, ?_⟩) | refine ⟨⟨by omega, by omega⟩, ?_⟩ | fail)
      · exact absurd (fun j hj => hpn j (by omega)) (pick_some hn hlt' h0)
    · obtain ⟨w, hw⟩ : ∃ w, mosT m s.S = w := ⟨_, rfl⟩
      have hwz : w = mosT m s.S - (zB (amt m) s.S : Nat) := by rw [hz1, ← hw]; simp
      repeat' ((conv => whnf); first | (refine ⟨fun h => ?_, fun h => ?_⟩ <;> try (exfalso; first | omega | exact absurd h (by decide) | exact h rfl)) | (refine idx_tab (N := N) (H := mosT m) (j := s.S) rfl (by omega) ?_; rw [hw]) | refine idx_tab (N := N) (H := sumT m) (j := s.S) rfl (by omega) ?_ | refine ⟨⟨by omega, by omega⟩, ?_⟩ | fail)
      conv => whnf
      refine ⟨Nat, fun xq => ⟨[(0, L 2 (m.map encS)), (3, L 1 (tabN N (sumT m))), (4, L 1 (tabN N (mosT m))), (5, .osl 0), (6, .osl 1), (7, I s.S), (8, I w), (35, I (m.map encS).length), (36, I xq)], [(0, .row 68 3 (s.O.map encT)), (1, .row 58 2 (s.G.map encS))], 2⟩, fun xq => xq ≤ m.length ∧ ∀ j, j < xq → pickP (amt m) s.S j = false, fun xq => m.length - xq, ⟨0, ?_, [], ⟨⟨rfl, rfl⟩, ⟨⟨rfl, rfl⟩, ⟨⟨rfl, rfl⟩, ⟨⟨rfl, rfl⟩, ⟨⟨rfl, rfl⟩, ⟨⟨rfl, rfl⟩, ⟨⟨rfl, rfl⟩, ⟨⟨rfl, rfl⟩, ⟨⟨rfl, rfl⟩, trivial⟩⟩⟩⟩⟩⟩⟩⟩⟩, ⟨⟨rfl, rfl, rfl⟩, ⟨⟨rfl, rfl, rfl⟩, trivial⟩⟩, rfl, rfl, rfl⟩, ?_⟩
      · (try dsimp only); exact ⟨Nat.zero_le _, fun j hj => by omega⟩
      rintro i hk
      obtain ⟨hi, hpn⟩ : i ≤ m.length ∧ ∀ j, j < i → pickP (amt m) s.S j = false := hk
      (try dsimp only)
      by_cases hil : i < m.length
      · obtain ⟨x, hx⟩ := getElem_some hil
        have hpi := pickP_int (i := i) hn hlt' h0
        rw [← hwz] at hpi
        cases hb : s.S.testBit i with
        | true =>
          rw [hb, Bool.true_and] at hpi
          have hclr := clr_yes (by omega) (by omega) hb
          have hTl := clr_lt (by omega) (by omega) hb
          by_cases hw2 : mosT m (s.S ^^^ 2 ^ i) = w
          · have hp : pickP (amt m) s.S i = true := by rw [hpi]; exact decide_eq_true hw2
            obtain ⟨st1, st2, _⟩ := hI.step hn h0 hx hp hpn
            by_cases hz : sumT m (s.S ^^^ 2 ^ i) = 0
            · obtain ⟨hI', hgr, hgd⟩ := st1 hz
              have hsl := (settleF_spec 9 (s.G ++ [x]) hgr hgd (by have := nzc_le (s.G ++ [x]); have := hgr.len; omega)).2.2
              have hsl2 := nzc_le (s.G ++ [x])
              have hsl3 := hgr.len
              have hsl4 : ((settleG (s.G ++ [x])).map encT).length ≤ 8 := by rw [List.length_map]; show (settleF 9 (s.G ++ [x])).length ≤ 8; omega
              repeat' ((conv => whnf); first | (refine ⟨fun h => ?_, fun h => ?_⟩ <;> try (exfalso; first | omega | exact absurd h (by decide) | exact h rfl)) | (refine ⟨Int.natCast_nonneg _, ?_⟩) | refine idx_tab (N := N) (H := mosT m) (j := s.S ^^^ 2 ^ i) hclr (by omega) ?_ | refine idx_tab (N := N) (H := sumT m) (j := s.S ^^^ 2 ^ i) hclr (by omega) ?_ | refine idx_at hx ?_ | (refine ⟨⟨by simp only [List.length_map, List.length_cons, List.length_nil]; omega, by simp only [List.length_map, List.length_cons, List.length_nil]; omega⟩, ?_⟩) | fail)
              rw [hclr]
              refine ⟨[2], _, settle_g, s.G ++ [x], ⟨hgr, hgd⟩, ⟨⟨⟨(by show some (Ob.row _ _ (s.G.map encS ++ [encS x])) = some (Ob.row _ _ ((s.G ++ [x]).map encS)); rw [List.map_append]; rfl), rfl, rfl⟩, trivial⟩, rfl, rfl, rfl⟩, ⟨⟨rfl, rfl⟩, trivial⟩, .inl rfl, ⟨⟨trivial, trivial⟩, trivial⟩, ?_⟩
              conv => whnf
              refine ⟨⟨by rw [List.length_map]; omega, by rw [List.length_map]; omega⟩, ?_⟩
              conv => whnf
              (refine ⟨(s.S ^^^ 2 ^ i, _, _), ⟨?_, by (try dsimp only); omega⟩, [(0, 3), (1, 4)], ⟨⟨rfl, rfl⟩, ⟨⟨rfl, rfl⟩, ⟨⟨rfl, rfl⟩, ⟨⟨rfl, rfl⟩, ⟨⟨rfl, rfl⟩, ⟨⟨rfl, rfl⟩, trivial⟩⟩⟩⟩⟩⟩, ⟨⟨rfl, rfl, rfl⟩, ⟨⟨rfl, rfl, rfl⟩, trivial⟩⟩, rfl, rfl, rfl⟩; (try dsimp only); exact ⟨⟨s.S ^^^ 2 ^ i, [], s.O ++ settleG (s.G ++ [x])⟩, rfl, ⟨by rw [List.map_append], rfl⟩, hI'⟩)
            · have hI' := st2 hz
              repeat' ((conv => whnf); first | (refine ⟨fun h => ?_, fun h => ?_⟩ <;> try (exfalso; first | omega | exact absurd h (by decide) | exact h rfl)) | (refine ⟨Int.natCast_nonneg _, ?_⟩) | refine idx_tab (N := N) (H := mosT m) (j := s.S ^^^ 2 ^ i) hclr (by omega) ?_ | refine idx_tab (N := N) (H := sumT m) (j := s.S ^^^ 2 ^ i) hclr (by omega) ?_ | refine idx_at hx ?_ | (refine ⟨⟨by simp only [List.length_map, List.length_cons, List.length_nil]; omega, by simp only [List.length_map, List.length_cons, List.length_nil]; omega⟩, ?_⟩) | fail)
              rw [hclr]
              (refine ⟨(s.S ^^^ 2 ^ i, _, _), ⟨?_, by (try dsimp only); omega⟩, [(0, 0), (1, 2)], ⟨⟨rfl, rfl⟩, ⟨⟨rfl, rfl⟩, ⟨⟨rfl, rfl⟩, ⟨⟨rfl, rfl⟩, ⟨⟨rfl, rfl⟩, ⟨⟨rfl, rfl⟩, trivial⟩⟩⟩⟩⟩⟩, ⟨⟨rfl, rfl, rfl⟩, ⟨⟨rfl, rfl, rfl⟩, trivial⟩⟩, rfl, rfl, rfl⟩; (try dsimp only); exact ⟨⟨s.S ^^^ 2 ^ i, s.G ++ [x], s.O⟩, rfl, ⟨rfl, by rw [List.map_append]; rfl⟩, hI'⟩)
          · have hp : pickP (amt m) s.S i = false := by rw [hpi]; exact decide_eq_false hw2
            repeat' ((conv => whnf); first | (refine ⟨i + 1, ⟨?_, by (try dsimp only); omega⟩, [], ⟨⟨rfl, rfl⟩, ⟨⟨rfl, rfl⟩, ⟨⟨rfl, rfl⟩, ⟨⟨rfl, rfl⟩, ⟨⟨rfl, rfl⟩, ⟨⟨rfl, rfl⟩, ⟨⟨rfl, rfl⟩, ⟨⟨rfl, rfl⟩, ⟨⟨rfl, rfl⟩, trivial⟩⟩⟩⟩⟩⟩⟩⟩⟩, ⟨⟨rfl, rfl, rfl⟩, ⟨⟨rfl, rfl, rfl⟩, trivial⟩⟩, rfl, rfl, rfl⟩; (try dsimp only); exact ⟨by omega, fun j hj => by by_cases e : j = i; (subst e; exact hp); exact hpn j (by omega)⟩) | (refine ⟨fun h => ?_, fun h => ?_⟩ <;> try (exfalso; first | omega | exact absurd h (by decide) | exact h rfl)) | (refine ⟨Int.natCast_nonneg _, ?_⟩) | refine idx_tab (N := N) (H := mosT m) (j := s.S ^^^ 2 ^ i) hclr (by omega) ?_ | refine ⟨⟨by omega, by omega⟩, ?_⟩ | fail)
        | false =>
          rw [hb, Bool.false_and] at hpi
          have hclr := clr_no (by omega) (by omega) hb
          repeat' ((conv => whnf); first | (refine ⟨i + 1, ⟨?_, by (try dsimp only); omega⟩, [], ⟨⟨rfl, rfl⟩, ⟨⟨rfl, rfl⟩, ⟨⟨rfl, rfl⟩, ⟨⟨rfl, rfl⟩, ⟨⟨rfl, rfl⟩, ⟨⟨rfl, rfl⟩, ⟨⟨rfl, rfl⟩, ⟨⟨rfl, rfl⟩, ⟨⟨rfl, rfl⟩, trivial⟩⟩⟩⟩⟩⟩⟩⟩⟩, ⟨⟨rfl, rfl, rfl⟩, ⟨⟨rfl, rfl, rfl⟩, trivial⟩⟩, rfl, rfl, rfl⟩; (try dsimp only); exact ⟨by omega, fun j hj => by by_cases e : j = i; (subst e; exact hpi); exact hpn j (by omega)⟩) | (refine ⟨fun h => ?_, fun h => ?_⟩ <;> try (exfalso; first | omega | exact absurd h (by decide) | exact h rfl)) | (refine ⟨Int.natCast_nonneg _, ?_⟩) | refine ⟨⟨by omega, by omega⟩, ?_⟩ | fail)
      · exact absurd (fun j hj => hpn j (by omega)) (pick_some hn hlt' h0)
theorem net_h : Holds Tryz.prog 63 netS := holds_of mix Tryz.func63 netLow (fun _ => rfl) netV

end Go.Proofs.YtpkhannkbafimaaGreat
