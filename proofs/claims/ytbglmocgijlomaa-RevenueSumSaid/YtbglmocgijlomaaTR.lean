/- Books, and what the laws ask of them: plain. No program in sight. -/
import Derived.Test.YtbglmocgijlomaaTQ
namespace Go.Proofs.Ytbglmocgijlomaa
open Go.RowKit

structure Book where
  m : Mp
  l : List Tariff
  rides : List Ride
abbrev aB (b : Book) : SV := .agg [L 2 (b.m.nodes.map encN), L 8 (b.m.lifts.map encL), L 7 (b.m.runs.map encU), L 1 (b.m.bases.map e1), L 2 (b.l.map encT), L 7 (b.rides.map encD)]
structure okB (b : Book) : Prop where
  hm : okM b.m
  ht : okT b.l
  hd : b.rides.length ≤ 9223372036854775807
def defP (b : Book) : Prop := ((b.rides.length ≤ 100 ∧ rightM b.m = 0) ∧ tarsE b.l = 0) ∧ ridesE b.rides = 0
instance (b : Book) : Decidable (defP b) := by unfold defP; infer_instance
theorem defP.bk {b : Book} (h : defP b) (ho : okB b) : BkP b.m b.l b.rides := by
  obtain ⟨⟨⟨h1, h2⟩, h3⟩, _⟩ := h
  have hr := tarsE_rates h3
  exact ⟨ho.hm, (rightM_lifts h2).2, by omega, hr.2, h1⟩
/-- What total says of shares that are in order. -/
structure Fine (l : List Share) : Prop where
  op : ∀ x ∈ l, (1 ≤ x.o ∧ x.o ≤ 8) ∧ 1 ≤ x.a
  lt : l.Pairwise fun x y => x.o < y.o
  sum : sumA l ≤ 1099511627776
  len : l.length ≤ 1000000
theorem fine_take {l : List Share} (h : Fine l) (k : Nat) : 0 ≤ sumA (l.take k) ∧ sumA (l.take k) ≤ sumA l := by
  have hp : Pos l := fun x hx => by have := (h.op x hx).2; omega
  have e : l = l.take k ++ l.drop k := (List.take_append_drop k l).symm
  have h1 : Pos (l.take k) := fun x hx => hp x (List.mem_of_mem_take hx)
  have h2 : Pos (l.drop k) := fun x hx => hp x (List.mem_of_mem_drop hx)
  have h3 := congrArg sumA e
  rw [sumA_app] at h3
  have := h1.sum
  have := h2.sum
  omega
theorem fine_lt {l : List Share} (h : Fine l) {k : Nat} {x y : Share} (hx : l[k]? = some x) (hy : l[k - 1]? = some y) (hk : 0 < k) : y.o < x.o := by
  obtain ⟨p1, e1⟩ := List.getElem?_eq_some_iff.1 hy
  obtain ⟨p2, e2⟩ := List.getElem?_eq_some_iff.1 hx
  have := List.pairwise_iff_getElem.1 h.lt (k - 1) k p1 p2 (by omega)
  rwa [e1, e2] at this
theorem sumA_snoc {l : List Share} {k : Nat} {x : Share} (h : l[k]? = some x) : sumA (l.take (k + 1)) = sumA (l.take k) + x.a := by
  rw [take_snoc l k x h, sumA_app]; simp [sumA]
theorem fine_few {L : List Share} {n : Int} {k : Nat} (g : AllG L n k) (hk : k ≤ 100) (hn : n ≤ 1099511627776) : Fine (fewL L) := by
  refine ⟨fun x hx => ⟨?_, few_pos g.pos hx⟩, fewL_lt L, by rw [sumA_few, g.sum]; exact hn, by have := few_len L; have := g.len; omega⟩
  obtain ⟨y, hy, e⟩ := List.mem_map.1 (few_op hx)
  have := g.op y hy
  omega
end Go.Proofs.Ytbglmocgijlomaa
