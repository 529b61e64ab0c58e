/- Incidents: changes, plain. No program in sight. -/
import Derived.Test.YtoeichkblclfaaaI1
namespace Go.Proofs.Ytoeichkblclfaaa
open Go.RowKit
def reportF (l : List Inc) (id run t : Int) : List Inc × Int := if rightI (l ++ [⟨id, run, 0, 1, 0, t⟩]) ≠ 0 then ([], rightI (l ++ [⟨id, run, 0, 1, 0, t⟩])) else (l ++ [⟨id, run, 0, 1, 0, t⟩], 0)
def chg (g : Inc → Inc × Int) (l : List Inc) (k : Nat) (t : Int) : List Inc × Int := if t < (at_ l inc0 k).since ∨ 20000000 < t then ([], 11) else if (g (at_ l inc0 k)).2 ≠ 0 then ([], (g (at_ l inc0 k)).2) else (l.set k { (g (at_ l inc0 k)).1 with since := t }, 0)
def changeF (g : Inc → Inc × Int) (l : List Inc) (id t : Int) : List Inc × Int := if ixF (idB id) l < 0 then ([], 8) else chg g l (ixF (idB id) l).toNat t
theorem change_no {g : Inc → Inc × Int} {l : List Inc} {id t : Int} (h : ixF (idB id) l = -1) : changeF g l id t = ([], 8) := if_pos (by omega)
theorem change_at {g : Inc → Inc × Int} {l : List Inc} {id t : Int} {k : Nat} (h : ixF (idB id) l = (k : Int)) : changeF g l id t = chg g l k t := by
  unfold changeF; rw [if_neg (by omega), h, Int.toNat_natCast]
theorem chg_late {g : Inc → Inc × Int} {l : List Inc} {t : Int} {k : Nat} {x : Inc} (hx : l[k]? = some x) (h : t < x.since ∨ 20000000 < t) : chg g l k t = ([], 11) := by unfold chg; rw [at_of hx, if_pos h]
theorem chg_err {g : Inc → Inc × Int} {l : List Inc} {t e : Int} {k : Nat} {x y : Inc} (hx : l[k]? = some x) (h : ¬ (t < x.since ∨ 20000000 < t)) (hg : g x = (y, e)) (he : e ≠ 0) : chg g l k t = ([], e) := by unfold chg; rw [at_of hx, if_neg h, hg, if_pos he]
theorem chg_ok {g : Inc → Inc × Int} {l : List Inc} {t : Int} {k : Nat} {x y : Inc} (hx : l[k]? = some x) (h : ¬ (t < x.since ∨ 20000000 < t)) (hg : g x = (y, 0)) : chg g l k t = (l.set k { y with since := t }, 0) := by unfold chg; rw [at_of hx, if_neg h, hg, if_neg (by simp)]
def judgeF (tri : Int) (x : Inc) : Inc × Int := if x.st = 5 then (inc0, 10) else if tri < 1 ∨ 4 < tri then (inc0, 2) else ({ x with tri := tri }, 0)
def sendF (l : List Inc) (team : Int) (x : Inc) : Inc × Int := if x.st ≠ 1 then (inc0, 10) else if team < 1 ∨ 9999 < team then (inc0, 2) else if l.any (teamB team) = true then (inc0, 15) else ({ x with st := 2, team := team }, 0)
def moveF (x : Inc) : Inc × Int := if x.st = 2 then ({ x with st := 3 }, 0) else if x.st = 3 then (if x.tri = 0 then (inc0, 17) else ({ x with st := 4 }, 0)) else if x.st = 4 then ({ x with st := 5, team := 0 }, 0) else (inc0, 10)
structure Opr where
  kind : Int
  id : Int
  n : Int
  t : Int
/-- What a call does. -/
def actF (l : List Inc) (o : Opr) : List Inc × Int := if o.kind = 0 then reportF l o.id o.n o.t else if o.kind = 1 then changeF (judgeF o.n) l o.id o.t else if o.kind = 2 then changeF (sendF l o.n) l o.id o.t else changeF moveF l o.id o.t
theorem len_of {l : List Inc} (h : rightI l = 0) : l.length ≤ 64 := by
  unfold rightI at h; split at h
  · omega
  · omega
theorem ic_of {l : List Inc} (h : rightI l = 0) {k : Nat} {x : Inc} (hx : l[k]? = some x) : incP x ∧ (l.take k).any (idB x.id) = false ∧ (x.team = 0 ↔ freeP x) ∧ (x.team ≠ 0 → (l.take k).any (teamB x.team) = false) := by
  have hl := len_of h
  unfold rightI at h; rw [if_neg (by omega)] at h
  have hE := fe_all h k (List.getElem?_eq_some_iff.1 hx).1
  unfold icE at hE
  rw [at_of hx] at hE
  split at hE
  · omega
  rename_i h1
  split at hE
  · omega
  rename_i h2
  split at hE
  · omega
  rename_i h3
  split at hE
  · omega
  rename_i h4
  exact ⟨Decidable.not_not.1 h1, by simpa using h2, Decidable.not_not.1 h3, fun hz => by
    cases hq : (l.take k).any (teamB x.team) with
    | false => rfl
    | true => exact absurd ⟨hz, hq⟩ h4⟩
theorem ic_mk {l : List Inc} (h : l.length ≤ 64) (hk : ∀ (k : Nat) (x : Inc), l[k]? = some x → incP x ∧ (l.take k).any (idB x.id) = false ∧ (x.team = 0 ↔ freeP x) ∧ (x.team ≠ 0 → (l.take k).any (teamB x.team) = false)) : rightI l = 0 := by
  unfold rightI; rw [if_neg (by omega)]
  have key : ∀ n, n ≤ l.length → fe (icE l) n = 0 := by
    intro n
    induction n with
    | zero => intro _; rfl
    | succ n ih =>
      intro hn
      obtain ⟨x, hx⟩ := getElem_some (show n < l.length by omega)
      obtain ⟨h1, h2, h3, h4⟩ := hk n x hx
      refine fe_go (ih (by omega)) ?_
      unfold icE
      rw [at_of hx, if_neg (Decidable.not_not.2 h1), if_neg (by rw [h2]; decide), if_neg (Decidable.not_not.2 h3)]
      refine if_neg fun ⟨hz, hq⟩ => ?_
      rw [h4 hz] at hq; exact absurd hq (by decide)
  exact key _ (Nat.le_refl _)

end Go.Proofs.Ytoeichkblclfaaa
