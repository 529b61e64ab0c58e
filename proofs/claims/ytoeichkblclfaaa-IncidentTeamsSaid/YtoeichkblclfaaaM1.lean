/- Plans, plain. -/
import Derived.Test.YtoeichkblclfaaaL4
import Derived.Test.YtoeichkblclfaaaJ3
namespace Go.Proofs.Ytoeichkblclfaaa
open Go.RowKit
def runId (l : List Inc) (i : Int) : Int := (at_ l inc0 (ixF (idB i) l).toNat).run
def fillT (best : List Int) (k : Nat) : Nat → List Int
  | 0 => List.replicate k 0
  | t + 1 => (fillT best k t).set (best.getD t 0).toNat (t : Int)
def kOf (l : List Inc) (nodes : List Int) : Nat := min nodes.length (urgF l).length
def runsF (l : List Inc) (nodes : List Int) : List Int := ((urgF l).take (kOf l nodes)).map (runId l)
abbrev matR (m : Mp) (runs nodes : List Int) : List (List Int) := matF (fun r n => costF m n r) runs nodes
abbrev matN (m : Mp) (nodes runs : List Int) : List (List Int) := matF (fun n r => costF m n r) nodes runs
def planF (m : Mp) (l : List Inc) (nodes : List Int) : List Int × Int :=
  if 8 < nodes.length then ([], 4)
  else if kOf l nodes < nodes.length then (greedy nodes.length (matR m (runsF l nodes) nodes) 0, 0)
  else (fillT (greedy (kOf l nodes) (matN m nodes (runsF l nodes)) 0) (kOf l nodes) (kOf l nodes), 0)
theorem fillT_len (best : List Int) (k : Nat) : ∀ t, (fillT best k t).length = k
  | 0 => by simp [fillT]
  | t + 1 => by rw [fillT, List.length_set]; exact fillT_len best k t
theorem urg_find {l : List Inc} {i : Int} (h : i ∈ urgF l) : ∃ (k : Nat) (x : Inc), ixF (idB i) l = (k : Int) ∧ l[k]? = some x ∧ x.id = i := by
  obtain ⟨x, hx, rfl⟩ := List.mem_map.1 h
  have hm : x ∈ l := (List.mem_filter.1 ((urgL_perm l).mem_iff.1 hx)).1
  rcases ix_cases (idB x.id) l with ⟨_, h2⟩ | ⟨k, y, h1, h2, h3, _⟩
  · rw [List.any_eq_false] at h2
    exact absurd (show idB x.id x = true from decide_eq_true rfl) (h2 x hm)
  · exact ⟨k, y, h1, h2, of_decide_eq_true h3⟩
theorem runId_at {l : List Inc} {i : Int} {k : Nat} {x : Inc} (h : ixF (idB i) l = (k : Int)) (hx : l[k]? = some x) : runId l i = x.run := by
  unfold runId; rw [h, Int.toNat_natCast, at_of hx]
/-- What the greedy assignment is like. -/
theorem greedy_spec {c : Nat} (hc : c ≤ 8) : ∀ {m : List (List Int)} {S : Nat}, OkM c m → S < 2 ^ c → popF S + m.length ≤ c → ((greedy c m S).length = m.length ∧ (greedy c m S).Nodup) ∧ ∀ x ∈ greedy c m S, ∃ k : Nat, x = (k : Int) ∧ k < c ∧ S.testBit k = false
  | [], S, _, _, _ => ⟨⟨rfl, List.nodup_nil⟩, fun x h => by cases h⟩
  | row :: rest, S, hm, hS, hp => by
    rw [List.length_cons] at hp
    obtain ⟨k, hk, hkc, hb, hv, _⟩ := firstK_ex (minF_ex hc hm hS (by omega))
    have hg : greedy c (row :: rest) S = (k : Int) :: greedy c rest (S + 2 ^ k) := by rw [greedy, hk]
    have hS2 : S < 256 := Nat.lt_of_lt_of_le hS (pow8 hc)
    obtain ⟨⟨h1, h2⟩, h3⟩ := greedy_spec hc (okM_tail hm) (mask_lt hc hS hkc hb) (by rw [pop_add hS2 (by omega) hb]; omega)
    rw [hg]
    refine ⟨⟨by rw [List.length_cons, List.length_cons, h1], ?_⟩, fun x hx => ?_⟩
    · rw [List.nodup_cons]
      refine ⟨fun hin => ?_, h2⟩
      obtain ⟨j, hj, _, hjb⟩ := h3 _ hin
      have : j = k := by omega
      subst this
      rw [mask_bit hS2 (by omega) hb] at hjb
      simp at hjb
    · rcases List.mem_cons.1 hx with rfl | hx
      · exact ⟨k, rfl, hkc, hb⟩
      · obtain ⟨j, hj, hjc, hjb⟩ := h3 x hx
        refine ⟨j, hj, hjc, ?_⟩
        rw [mask_bit hS2 (by omega) hb] at hjb
        rw [Bool.or_eq_false_iff] at hjb; exact hjb.1
theorem mat_ok {g : Int → Int → Int} (hg : ∀ a b, 0 ≤ g a b ∧ g a b ≤ 1000000) (rows cols : List Int) : OkM cols.length (matF g rows cols) := by
  intro row hr
  obtain ⟨r, _, rfl⟩ := List.mem_map.1 hr
  refine ⟨List.length_map .., fun x hx => ?_⟩
  obtain ⟨c, _, rfl⟩ := List.mem_map.1 hx
  exact hg r c
theorem matR_good {m : Mp} (hm : MapOk m) {runs nodes : List Int} (h : runs.length ≤ nodes.length) (h8 : nodes.length ≤ 8) : GoodM nodes.length (matR m runs nodes) := ⟨⟨by unfold matR matF; rw [List.length_map]; exact h, h8⟩, mat_ok (fun a b => cost_bnd hm b a) runs nodes⟩
theorem matN_good {m : Mp} (hm : MapOk m) {runs nodes : List Int} (h : nodes.length ≤ runs.length) (h8 : runs.length ≤ 8) : GoodM runs.length (matN m nodes runs) := ⟨⟨by unfold matN matF; rw [List.length_map]; exact h, h8⟩, mat_ok (fun a b => cost_bnd hm a b) nodes runs⟩
theorem runs_len (l : List Inc) (nodes : List Int) : (runsF l nodes).length = kOf l nodes := by
  unfold runsF; rw [List.length_map, List.length_take]; unfold kOf; omega
/-- What the greedy assignment of a good matrix is like. -/
theorem good_greedy {c : Nat} {m : List (List Int)} (h : GoodM c m) : ((greedy c m 0).length = m.length ∧ (greedy c m 0).Nodup) ∧ ∀ x ∈ greedy c m 0, 0 ≤ x ∧ x < c := by
  obtain ⟨⟨h1, h2⟩, h3⟩ := h
  obtain ⟨g1, g2⟩ := greedy_spec h2 h3 (Nat.two_pow_pos c) (by unfold popF; simpa using h1)
  refine ⟨g1, fun x hx => ?_⟩
  obtain ⟨k, rfl, hk, _⟩ := g2 x hx
  omega

end Go.Proofs.Ytoeichkblclfaaa
