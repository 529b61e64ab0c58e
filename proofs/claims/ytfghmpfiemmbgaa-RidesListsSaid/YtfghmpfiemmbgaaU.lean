/- Words for the abstract walks. No program in sight. -/
import Derived.Test.YtfghmpfiemmbgaaC1
namespace Go.Proofs.Ytfghmpfiemmbgaa
open Go.RowKit

abbrev I (n : Int) : SV := .c (.int .i64 n)
abbrev B (b : Bool) : SV := .c (.bool b)
abbrev L (k : Nat) (es : List (List CV)) : SV := .c (.sl k es)
abbrev cI (n : Int) : List CV := [.int .i64 n]
/-- A contract whose result is closed. -/
abbrev spec (X : Type) (args : X → List SV) (pre : X → Prop) (res : X → SV) : Spec := ⟨X, args, pre, res, fun _ => []⟩

theorem le0_refl (x : SV) : le0 x x := by
  cases x with
  | c v => cases v <;> rfl
  | _ => rfl
theorem leL_refl : ∀ l : List SV, leL l l
  | [] => trivial
  | x :: r => ⟨le0_refl x, leL_refl r⟩
theorem leV_refl (x : SV) : leV x x := by
  cases x with
  | agg cs => exact leL_refl cs
  | tup cs => exact leL_refl cs
  | c v => exact le0_refl (.c v)
  | _ => rfl
theorem leVs_of_eq {l m : List SV} (h : l = m) : leVs l m := by
  subst h
  induction l with
  | nil => trivial
  | cons x r ih => exact ⟨leV_refl x, ih⟩
/-- A contract with a weaker result. -/
theorem Holds.weaken {P : Program} {f : Nat} {S : Spec} (h : Holds P f S) (ho : ∀ x, S.obs x = []) (res' : S.X → SV) (hr : ∀ x, S.pre x → leV (S.res x) (res' x)) : Holds P f ⟨S.X, S.args, S.pre, res', fun _ => []⟩ := by
  intro x F w vs hp hF ha
  refine Calls.mono (h x F w vs hp hF ha) ?_
  rintro e w' ⟨v, ι, rfl, hb, hd, hv, h1, h2⟩
  rw [ho x] at hv h1 h2
  exact ⟨v, ι, rfl, hb, hd, leV_rep (hr x hp) hv, h1, h2⟩
theorem map_get {α : Type} {f : α → List CV} {xs : List α} {i : Nat} {r : List CV} (h : (xs.map f)[i]? = some r) : ∃ x, xs[i]? = some x ∧ r = f x := by
  rw [List.getElem?_map] at h
  cases hx : xs[i]? with
  | none => rw [hx] at h; cases h
  | some x => rw [hx] at h; cases h; exact ⟨x, rfl, rfl⟩
end Go.Proofs.Ytfghmpfiemmbgaa
