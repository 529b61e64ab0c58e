/- Periods: operations. -/
import Derived.Test.YtpkhannkbafimaaGreatRL
import Derived.Test.YtpkhannkbafimaaGreatArg
namespace Go.Proofs.YtpkhannkbafimaaGreat
open Go.RowKit
def doB (b : Bk) (x : Opp) : Bk := if x.kind = 0 then (if beginE b x.to = 0 then beginB b x.to else b) else if x.kind = 1 then (if entE b x.r = 0 then entB b x.r else b) else if x.kind = 2 then (if clsE b x.num x.due x.rcv = 0 then clsB b x.num x.due x.rcv else b) else b
def doK (b : Bk) (x : Opp) : Bool := if x.kind = 0 then decide (beginE b x.to = 0) else if x.kind = 1 then decide (entE b x.r = 0) else if x.kind = 2 then decide (clsE b x.num x.due x.rcv = 0) else false
theorem RB.doit {b : Bk} (h : RB b) (x : Opp) : RB (doB b x) := by
  unfold doB
  by_cases k0 : x.kind = 0
  · rw [if_pos k0]
    by_cases he : beginE b x.to = 0
    · rw [if_pos he]; exact h.begin he
    · rw [if_neg he]; exact h
  rw [if_neg k0]
  by_cases k1 : x.kind = 1
  · rw [if_pos k1]
    by_cases he : entE b x.r = 0
    · rw [if_pos he]; exact h.enter he
    · rw [if_neg he]; exact h
  rw [if_neg k1]
  by_cases k2 : x.kind = 2
  · rw [if_pos k2]
    by_cases he : clsE b x.num x.due x.rcv = 0
    · rw [if_pos he]
      obtain ⟨y, hy⟩ := cls_cases h he
      exact h.close hy
    · rw [if_neg he]; exact h
  rw [if_neg k2]
  exact h
theorem do_no {b : Bk} {x : Opp} (h : doK b x = false) : doB b x = b := by
  unfold doK at h
  unfold doB
  by_cases k0 : x.kind = 0
  · rw [if_pos k0] at h ⊢; rw [if_neg (of_decide_eq_false h)]
  rw [if_neg k0] at h ⊢
  by_cases k1 : x.kind = 1
  · rw [if_pos k1] at h ⊢; rw [if_neg (of_decide_eq_false h)]
  rw [if_neg k1] at h ⊢
  by_cases k2 : x.kind = 2
  · rw [if_pos k2] at h ⊢; rw [if_neg (of_decide_eq_false h)]
  rw [if_neg k2]
def doX (b : Bk) (x : Opp) : SV := .tup [aB (doB b x), B (doK b x)]

/-! skiarea/skiarealaw38.do -/
def doIr : IFn := ⟨48, [.cell 4 3 true, .tmp 5],
  (.seq (.ops [
    ⟨(some 2), .box, [.tmp 0], none⟩,
    ⟨(some 3), .box, [.tmp 1], none⟩,
    ⟨(some 4), .alloc [.nil, .nil, .nil], [], none⟩,
    ⟨(some 5), .mov, [.const (.bool false)], none⟩] false)
  (.seq (.ops [
    ⟨(some 8), .load 3 true, [.tmp 2], none⟩,
    ⟨(some 6), .alloc [.nil, .nil, .nil], [], none⟩,
    ⟨none, .store 3, [.tmp 6, .tmp 8], none⟩,
    ⟨(some 7), .mov, [.const (.int .i64 0)], none⟩] false)
  (.seq (.seq (.ops [
    ⟨(some 9), .faddr 0, [.tmp 3], none⟩,
    ⟨(some 10), .load 1 false, [.tmp 9], none⟩] false)
  (.block 0
    (.seq (.ops [
      ⟨(some 13), .cmp .eql, [.tmp 10, .const (.int .i64 0)], none⟩,
      ⟨(some 12), .mov, [.tmp 13], none⟩] false)
    (.cond (.tmp 12)
      (.ops [
        ⟨(some 15), .load 3 true, [.tmp 2], none⟩,
        ⟨(some 16), .faddr 1, [.tmp 3], none⟩,
        ⟨(some 17), .load 1 false, [.tmp 16], none⟩,
        ⟨(some 18), .call 15, [.tmp 15, .tmp 17], none⟩,
        ⟨(some 14), .mov, [.tmp 18], none⟩,
        ⟨(some 19), .extract 0, [.tmp 14], none⟩,
        ⟨(some 20), .extract 1, [.tmp 14], none⟩,
        ⟨none, .store 3, [.tmp 6, .tmp 19], none⟩,
        ⟨(some 7), .mov, [.tmp 20], none⟩] false)
      (.seq (.ops [
        ⟨(some 22), .cmp .eql, [.tmp 10, .const (.int .i64 1)], none⟩,
        ⟨(some 21), .mov, [.tmp 22], none⟩] false)
      (.cond (.tmp 21)
        (.ops [
          ⟨(some 24), .load 3 true, [.tmp 2], none⟩,
          ⟨(some 25), .faddr 3, [.tmp 3], none⟩,
          ⟨(some 26), .load 7 true, [.tmp 25], none⟩,
          ⟨(some 27), .call 20, [.tmp 24, .tmp 26], none⟩,
          ⟨(some 23), .mov, [.tmp 27], none⟩,
          ⟨(some 28), .extract 0, [.tmp 23], none⟩,
          ⟨(some 29), .extract 1, [.tmp 23], none⟩,
          ⟨(some 30), .extract 2, [.tmp 23], none⟩,
          ⟨none, .store 3, [.tmp 6, .tmp 28], none⟩,
          ⟨(some 7), .mov, [.tmp 30], none⟩] false)
        (.seq (.ops [
          ⟨(some 32), .cmp .eql, [.tmp 10, .const (.int .i64 2)], none⟩,
          ⟨(some 31), .mov, [.tmp 32], none⟩] false)
        (.cond (.tmp 31)
          (.ops [
            ⟨(some 34), .load 3 true, [.tmp 2], none⟩,
            ⟨(some 35), .faddr 2, [.tmp 3], none⟩,
            ⟨(some 36), .load 1 false, [.tmp 35], none⟩,
            ⟨(some 37), .faddr 10, [.tmp 3], none⟩,
            ⟨(some 38), .load 1 false, [.tmp 37], none⟩,
            ⟨(some 39), .faddr 11, [.tmp 3], none⟩,
            ⟨(some 40), .load 1 false, [.tmp 39], none⟩,
            ⟨(some 41), .call 29, [.tmp 34, .tmp 36, .tmp 38, .tmp 40], none⟩,
            ⟨(some 33), .mov, [.tmp 41], none⟩,
            ⟨(some 42), .extract 0, [.tmp 33], none⟩,
            ⟨(some 43), .extract 1, [.tmp 33], none⟩,
            ⟨none, .store 3, [.tmp 6, .tmp 42], none⟩,
            ⟨(some 7), .mov, [.tmp 43], none⟩] false)
          (.seq (.ops [
            ⟨(some 11), .load 3 true, [.tmp 2], none⟩,
            ⟨none, .store 3, [.tmp 4, .tmp 11], none⟩,
            ⟨(some 5), .mov, [.const (.bool false)], none⟩] false)
          .ret)))))))))
  (.seq (.seq (.ops [
    ⟨(some 44), .mov, [.tmp 7], none⟩,
    ⟨(some 45), .cmp .neq, [.tmp 44, .const (.int .i64 0)], none⟩] false)
  (.cond (.tmp 45)
    (.seq (.ops [
      ⟨(some 46), .load 3 true, [.tmp 2], none⟩,
      ⟨none, .store 3, [.tmp 4, .tmp 46], none⟩,
      ⟨(some 5), .mov, [.const (.bool false)], none⟩] false)
    .ret)
    .skip))
  (.seq (.ops [
    ⟨(some 47), .load 3 true, [.tmp 6], none⟩,
    ⟨none, .store 3, [.tmp 4, .tmp 47], none⟩,
    ⟨(some 5), .mov, [.const (.bool true)], none⟩] false)
  .ret)))))⟩
theorem doLow : lowF Tryz.prog {} Tryz.f25 = some doIr := by kernel_rfl
def doS : Spec := spec (Bk × Opp) (fun p => [aB p.1, aOp p.2]) (fun p => RB p.1 ∧ okOp p.2) (fun p => doX p.1 p.2)
set_option maxHeartbeats 1000000 in
theorem doV : fnV Tryz.prog doIr doS := by
  intro ⟨(b : Bk), (x : Opp)⟩ hp
  obtain ⟨hr, ho⟩ : RB b ∧ okOp x := hp
  have hlp : (b.ps.map encP).length = b.ps.length := List.length_map ..
  have hlo : (b.po.map encO).length = b.po.length := List.length_map ..
  have hlr : (b.rs.map encC).length = b.rs.length := List.length_map ..
  show vc _ _ _ _ ⟨argEnv 0 [aB b, aOp x], [], 0⟩
  by_cases k0 : x.kind = 0
  · skip
    by_cases he : beginE b x.to = 0
    · have hX : doX b x = .tup [aB (beginB b x.to), B true] := by unfold doX doB doK; rw [if_pos k0, if_pos k0]; rw [if_pos he, decide_eq_true he]
      repeat' ((conv => whnf); first | (refine ⟨fun h => ?_, fun h => ?_⟩ <;> try (exfalso; first | omega | exact absurd h (by decide) | exact h rfl | exact absurd (show true = false from h) (by decide) | exact absurd (show false = true from h) (by decide))) | (refine ⟨_, begin_h, (b, x.to), hr.sm, leVs_of_eq rfl, .inl rfl, rfl, ?_⟩; show norm (.tup [aB (beginB b x.to), I (beginE b x.to)]) _) | fail | fail)
      all_goals (refine ⟨[], rfl, trivial, ?_⟩; show leR _ (doX b x); rw [hX]; exact ⟨⟨rfl, rfl, rfl, trivial⟩, rfl, trivial⟩)
    · have hX : doX b x = .tup [aB b, B false] := by unfold doX doB doK; rw [if_pos k0, if_pos k0]; rw [if_neg he, decide_eq_false he]
      repeat' ((conv => whnf); first | (refine ⟨fun h => ?_, fun h => ?_⟩ <;> try (exfalso; first | omega | exact absurd h (by decide) | exact h rfl | exact absurd (show true = false from h) (by decide) | exact absurd (show false = true from h) (by decide))) | (refine ⟨_, begin_h, (b, x.to), hr.sm, leVs_of_eq rfl, .inl rfl, rfl, ?_⟩; show norm (.tup [aB (beginB b x.to), I (beginE b x.to)]) _) | fail | fail)
      all_goals (refine ⟨[], rfl, trivial, ?_⟩; show leR _ (doX b x); rw [hX]; exact ⟨⟨rfl, rfl, rfl, trivial⟩, rfl, trivial⟩)
  by_cases k1 : x.kind = 1
  · skip
    by_cases he : entE b x.r = 0
    · have hX : doX b x = .tup [aB (entB b x.r), B true] := by unfold doX doB doK; rw [if_neg k0, if_neg k0, if_pos k1, if_pos k1]; rw [if_pos he, decide_eq_true he]
      repeat' ((conv => whnf); first | (refine ⟨fun h => ?_, fun h => ?_⟩ <;> try (exfalso; first | omega | exact absurd h (by decide) | exact h rfl | exact absurd (show true = false from h) (by decide) | exact absurd (show false = true from h) (by decide))) | (refine ⟨_, enter_h, (b, x.r), hr.ent, leVs_of_eq rfl, .inl rfl, rfl, ?_⟩; show norm (.tup [aB (entB b x.r), I (entN b x.r), I (entE b x.r)]) _) | fail | fail)
      all_goals (refine ⟨[], rfl, trivial, ?_⟩; show leR _ (doX b x); rw [hX]; exact ⟨⟨rfl, rfl, rfl, trivial⟩, rfl, trivial⟩)
    · have hX : doX b x = .tup [aB b, B false] := by unfold doX doB doK; rw [if_neg k0, if_neg k0, if_pos k1, if_pos k1]; rw [if_neg he, decide_eq_false he]
      repeat' ((conv => whnf); first | (refine ⟨fun h => ?_, fun h => ?_⟩ <;> try (exfalso; first | omega | exact absurd h (by decide) | exact h rfl | exact absurd (show true = false from h) (by decide) | exact absurd (show false = true from h) (by decide))) | (refine ⟨_, enter_h, (b, x.r), hr.ent, leVs_of_eq rfl, .inl rfl, rfl, ?_⟩; show norm (.tup [aB (entB b x.r), I (entN b x.r), I (entE b x.r)]) _) | fail | fail)
      all_goals (refine ⟨[], rfl, trivial, ?_⟩; show leR _ (doX b x); rw [hX]; exact ⟨⟨rfl, rfl, rfl, trivial⟩, rfl, trivial⟩)
  by_cases k2 : x.kind = 2
  · skip
    by_cases he : clsE b x.num x.due x.rcv = 0
    · have hX : doX b x = .tup [aB (clsB b x.num x.due x.rcv), B true] := by unfold doX doB doK; rw [if_neg k0, if_neg k0, if_neg k1, if_neg k1, if_pos k2, if_pos k2]; rw [if_pos he, decide_eq_true he]
      repeat' ((conv => whnf); first | (refine ⟨fun h => ?_, fun h => ?_⟩ <;> try (exfalso; first | omega | exact absurd h (by decide) | exact h rfl | exact absurd (show true = false from h) (by decide) | exact absurd (show false = true from h) (by decide))) | (refine ⟨_, close_h, (b, x.num, x.due, x.rcv), hr.cls ho.1 ho.2, leVs_of_eq rfl, .inl rfl, rfl, ?_⟩; show norm (.tup [aB (clsB b x.num x.due x.rcv), I (clsE b x.num x.due x.rcv)]) _) | fail | fail)
      all_goals (refine ⟨[], rfl, trivial, ?_⟩; show leR _ (doX b x); rw [hX]; exact ⟨⟨rfl, rfl, rfl, trivial⟩, rfl, trivial⟩)
    · have hX : doX b x = .tup [aB b, B false] := by unfold doX doB doK; rw [if_neg k0, if_neg k0, if_neg k1, if_neg k1, if_pos k2, if_pos k2]; rw [if_neg he, decide_eq_false he]
      repeat' ((conv => whnf); first | (refine ⟨fun h => ?_, fun h => ?_⟩ <;> try (exfalso; first | omega | exact absurd h (by decide) | exact h rfl | exact absurd (show true = false from h) (by decide) | exact absurd (show false = true from h) (by decide))) | (refine ⟨_, close_h, (b, x.num, x.due, x.rcv), hr.cls ho.1 ho.2, leVs_of_eq rfl, .inl rfl, rfl, ?_⟩; show norm (.tup [aB (clsB b x.num x.due x.rcv), I (clsE b x.num x.due x.rcv)]) _) | fail | fail)
      all_goals (refine ⟨[], rfl, trivial, ?_⟩; show leR _ (doX b x); rw [hX]; exact ⟨⟨rfl, rfl, rfl, trivial⟩, rfl, trivial⟩)
  have hX : doX b x = .tup [aB b, B false] := by unfold doX doB doK; rw [if_neg k0, if_neg k0, if_neg k1, if_neg k1, if_neg k2, if_neg k2]
  repeat' ((conv => whnf); first | (refine ⟨fun h => ?_, fun h => ?_⟩ <;> try (exfalso; first | omega | exact absurd h (by decide) | exact h rfl | exact absurd (show true = false from h) (by decide) | exact absurd (show false = true from h) (by decide))) | fail | fail)
  all_goals (refine ⟨[], rfl, trivial, ?_⟩; show leR _ (doX b x); rw [hX]; exact ⟨⟨rfl, rfl, rfl, trivial⟩, rfl, trivial⟩)
theorem do_h : Holds Tryz.prog 25 doS := holds_of mix Tryz.func25 doLow (fun _ => rfl) doV

end Go.Proofs.YtpkhannkbafimaaGreat
