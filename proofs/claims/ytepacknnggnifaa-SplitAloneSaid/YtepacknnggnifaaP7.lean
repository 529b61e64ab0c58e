/- What Split checks: plain. No program in sight. -/
import Derived.Test.YtepacknnggnifaaP6
namespace Go.Proofs.Ytepacknnggnifaa
open Go.RowKit

def okW (w : Int) : Prop := 0 ≤ w ∧ w ≤ 1000000000
instance (w : Int) : Decidable (okW w) := by unfold okW; infer_instance
def chkF (a : Int) (ws : List Int) : Int := if 64 < ws.length then 4 else if a < 0 ∨ 1099511627776 < a then 2 else if ∀ w ∈ ws, okW w then (if ws.sum = 0 then 1 else 0) else 2
def chkT (a : Int) (ws : List Int) : SV := .tup [.c (.int .i64 (if chkF a ws = 0 then ws.sum else 0)), .c (.int .i64 (chkF a ws))]
theorem sum_ok : ∀ {ws : List Int}, (∀ w ∈ ws, okW w) → 0 ≤ ws.sum ∧ ws.sum ≤ 1000000000 * ws.length
  | [], _ => by simp
  | w :: r, h => by
    obtain ⟨h1, h2⟩ := sum_ok (ws := r) fun x hx => h x (by simp [hx])
    have := h w (by simp)
    unfold okW at this
    simp only [List.sum_cons, List.length_cons]
    omega
theorem runO_ok : ∀ {ws : List Int} {s : Int}, (∀ w ∈ ws, okW w) → 0 ≤ s → s + 1000000000 * ws.length ≤ 1099511627776 → runO s ws = some (s + ws.sum)
  | [], s, _, _, _ => by simp [runO]
  | w :: r, s, h, h0, h1 => by
    have hw := h w (by simp)
    unfold okW at hw
    simp only [List.length_cons] at h1
    have hp : plusF s w = some (s + w) := if_neg (by omega)
    rw [runO, hp]
    simp only
    rw [runO_ok (fun x hx => h x (by simp [hx])) (by omega) (by omega), List.sum_cons, Int.add_assoc]
end Go.Proofs.Ytepacknnggnifaa
