/- Positions settled apart. No program in sight. -/
import Derived.Test.YtdkkblcninogdaaPB
namespace Go.Proofs.Ytdkkblcninogdaa

theorem posAt_app (v : Int) (b : List Share) : ∀ a, posAt (a ++ b) v = posAt a v + posAt b v
  | [] => by simp [posAt]
  | y :: r => by simp only [List.cons_append, posAt, posAt_app v b r]; omega
theorem apart_valid {l : List Share} {k : Nat} (ha : RightP (l.take k)) (hb : RightP (l.drop k)) : ValidP l (netF (l.take k) ++ netF (l.drop k)) := by
  have h1 := netF_spec ha
  have h2 := netF_spec hb
  refine ⟨fun x hx => ?_, fun v hv => ?_⟩
  · rcases List.mem_append.1 hx with hx | hx
    · exact h1.valid.1 x hx
    · exact h2.valid.1 x hx
  · rw [bal_app, h1.bal, h2.bal, ← posAt_app, List.take_append_drop]
theorem apart_least {l : List Share} {k : Nat} (hr : RightP l) (ha : RightP (l.take k)) (hb : RightP (l.drop k)) : leastF l ≤ leastF (l.take k) + leastF (l.drop k) := by
  have := least_valid hr (apart_valid ha hb)
  rw [List.length_append, (netF_spec ha).len, (netF_spec hb).len] at this
  exact this
theorem least_le {l : List Share} (hr : RightP l) : leastF l ≤ 8 := by
  unfold leastF
  have := List.length_filter_le (fun x : Share => decide (x.a ≠ 0)) l
  have h2 : (nzl l).length ≤ l.length := this
  have := hr.len
  omega
end Go.Proofs.Ytdkkblcninogdaa
