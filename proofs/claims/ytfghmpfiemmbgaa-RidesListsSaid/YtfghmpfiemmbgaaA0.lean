/- A run never takes back a draw. No program in sight. -/
import Derived.Test.YtfghmpfiemmbgaaMem
namespace Go.Proofs.Ytfghmpfiemmbgaa
open Go.RowKit

theorem ask_drawn {α : Type} : ∀ (k : Ask α) (w : World), w.drawn ≤ (w.ask k).2.drawn
  | .done a, w => Nat.le_refl _
  | .ask what range k, w => by
    simp only [World.ask]
    split
    · exact ask_drawn (k 0) w
    · exact Nat.le_trans (Nat.le_succ _) (ask_drawn (k _) { w with drawn := w.drawn + 1 })
theorem sys_drawn (w : World) (c : Sys) : w.drawn ≤ (w.sys c).2.drawn := by
  unfold World.sys
  have h := ask_drawn (Kernel.perform c w.os) w
  generalize w.ask (Kernel.perform c w.os) = r at *
  split
  · exact Nat.le_refl _
  · exact h
theorem viewStore_drawn {P : Program} {w w' : World} {a k : Addr} {u : TypeId} {v : Value} {b : Bool} {l : List Addr} (h : w.viewStore P a u k v b = .ok (w', l)) : w'.drawn = w.drawn := by
  unfold World.viewStore at h
  simp only [bind, Except.bind, pure, Except.pure] at h
  repeat' split at h
  all_goals first | (cases h; done) | skip
  all_goals first | (cases h; rfl) | skip
theorem farStore_drawn {P : Program} {w w' : World} {a : Addr} {v : Value} {b : Bool} {l : List Addr} (hf : w.farStore P a v b = .ok (w', l)) : w'.drawn = w.drawn := by
  unfold World.farStore at hf
  split at hf
  · split at hf
    · rename_i hv
      cases hf
      exact viewStore_drawn hv
    · cases hf
  · cases hf
theorem run_drawn {P : Program} {α : Type} : ∀ (s : Sem α) (w w' : World) (x : α), s.run P w = .ok x w' → w.drawn ≤ w'.drawn
  | .pure a, w, w', x, h => by cases h; exact Nat.le_refl _
  | .load m a k, w, w', x, h => by
    simp only [Sem.run] at h
    split at h
    · exact run_drawn (k _) w w' x h
    · split at h
      · exact run_drawn (k _) w w' x h
      · cases h
  | .store m a v k, w, w', x, h => by
    cases v
    all_goals simp only [Sem.run] at h
    all_goals first | (cases h; done) | skip
    all_goals
      split at h
      · split at h
        · cases h
        · exact run_drawn k (World.setCell w a _) w' x h
      · split at h
        · rename_i w1 l hf
          rw [← farStore_drawn hf]
          exact run_drawn k w1 w' x h
        · cases h
  | .new o k, w, w', x, h => by
    simp only [Sem.run] at h
    exact run_drawn (k _) { w with heap := w.heap.push o } w' x h
  | .shape r k, w, w', x, h => by simp only [Sem.run] at h; exact run_drawn (k _) w w' x h
  | .freeze a n k, w, w', x, h => by
    simp only [Sem.run] at h
    have := run_drawn k _ w' x h
    unfold World.freeze at this
    split at this <;> exact this
  | .frozen a k, w, w', x, h => by simp only [Sem.run] at h; exact run_drawn (k _) w w' x h
  | .getObj r k, w, w', x, h => by
    simp only [Sem.run] at h
    split at h
    · cases h
    · exact run_drawn (k _) w w' x h
    · cases h
  | .setObj r o k, w, w', x, h => by
    simp only [Sem.run] at h
    split at h
    · cases h
    · exact run_drawn k { w with heap := w.heap.setIfInBounds r o } w' x h
    · cases h
  | .choose q k, w, w', x, h => by
    simp only [Sem.run] at h
    split at h
    · exact run_drawn (k 0) w w' x h
    · exact Nat.le_trans (Nat.le_succ _) (run_drawn (k _) { w with drawn := w.drawn + 1 } w' x h)
  | .sys c k, w, w', x, h => by
    simp only [Sem.run] at h
    exact Nat.le_trans (sys_drawn w c) (run_drawn (k _) _ w' x h)
  | .program k, w, w', x, h => by simp only [Sem.run] at h; exact run_drawn (k _) w w' x h
  | .mark m k, w, w', x, h => by simp only [Sem.run] at h; exact run_drawn k w w' x h
  | .halt h', w, w', x, h => by cases h
end Go.Proofs.Ytfghmpfiemmbgaa
