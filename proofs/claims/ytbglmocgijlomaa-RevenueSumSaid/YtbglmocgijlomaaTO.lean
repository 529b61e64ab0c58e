/- An area for the examples; contracts at rows with nil inside. No program in sight. -/
import Derived.Test.YtbglmocgijlomaaTN
namespace Go.Proofs.Ytbglmocgijlomaa
open Go.RowKit

/-- A closed value that reads as another one: a nil within it reads as no rows. -/
inductive leD : CV → CV → Prop
  | same (x : CV) : leD x x
  | nil (k : Nat) : leD .nil (.sl k [])
  | sl (k : Nat) (es es' : List (List CV)) (hl : es.length = es'.length) (hf : es.flatten.length = es'.flatten.length) (hk : ∀ e ∈ es', e.length = k)
      (h : ∀ (i : Nat) (c c' : CV), es.flatten[i]? = some c → es'.flatten[i]? = some c' → leD c c') : leD (.sl k es) (.sl k es')
theorem leD_rep {w : World} {own : Nat → Prop} {x y : CV} (h : leD x y) : ∀ {u : Value}, RepC w own x u → RepC w own y u := by
  induction h with
  | same x => exact id
  | nil k =>
    intro u hr
    cases hr
    exact .sl _ [] none 0 [] (by simp) (by simp) (by omega) (by simp) (by simp) (by simp)
  | sl k es es' hl hf hk h ih =>
    intro u hr
    cases hr with
    | sl _ _ A c xs hk0 h1 h2 hx hA hr =>
      rw [hl]
      refine .sl k es' A c xs hk (by omega) h2 (by rw [hx, hl]) (fun h0 => hA (by omega)) fun i c' v hc hv => ?_
      obtain ⟨c0, hc0⟩ := getElem_some (xs := es.flatten) (k := i) (by rw [hf]; exact (List.getElem?_eq_some_iff.1 hc).1)
      exact ih i c0 c' hc0 hc (hr i c0 v hc0 hv)
def leDV : List SV → List SV → Prop
  | [], [] => True
  | x :: r, y :: t => (x = y ∨ ∃ a b, x = .c a ∧ y = .c b ∧ leD a b) ∧ leDV r t
  | _, _ => False
theorem leDV_rep {w : World} {own : Nat → Prop} {ι : Iota} {H : List (Nat × Ob)} {nx : Nat} : ∀ {ss ts : List SV} {us : List Value}, leDV ss ts → RepList w own ι H nx ss us → RepList w own ι H nx ts us
  | [], [], _, _, hr => hr
  | [], _ :: _, _, h, _ => by cases h
  | _ :: _, [], _, h, _ => by cases h
  | x :: r, y :: t, us, h, hr => by
    obtain ⟨u, ur, rfl, hu, hur⟩ := replist_cons hr
    refine replist_mk ?_ (leDV_rep h.2 hur)
    rcases h.1 with rfl | ⟨a, b, rfl, rfl, hd⟩
    · exact hu
    · cases hu with | c _ _ hc => exact .c _ _ (leD_rep hd hc)
theorem holds_deep {P : Program} {f : Nat} {S : Spec} (h : Holds P f S) {X : Type} (g : X → S.X) (args : X → List SV) (pre : X → Prop) (ha : ∀ x, leDV (args x) (S.args (g x))) (hp : ∀ x, pre x → S.pre (g x)) : Holds P f ⟨X, args, pre, fun x => S.res (g x), fun x => S.obs (g x)⟩ :=
  fun x F w vs hx hF hr => h (g x) F w vs (hp x hx) hF (leDV_rep (ha x) hr)

/-! ### the examples -/
def smM : Mp := ⟨[⟨1, 1000⟩, ⟨2, 1500⟩, ⟨3, 2000⟩], [⟨1, 1, 1, 3, 2000, 5000, 4, 20⟩], [⟨11, 1, 3, 2, 2, 1, 900⟩, ⟨12, 1, 2, 1, 1, 2, 1200⟩], [1]⟩
def exM : Mp := ⟨[⟨1, 1000⟩, ⟨2, 1500⟩, ⟨3, 2000⟩], [⟨1, 1, 1, 3, 2000, 5000, 4, 20⟩, ⟨2, 2, 2, 3, 500, 2500, 2, 10⟩], [⟨11, 1, 3, 2, 2, 1, 900⟩, ⟨12, 1, 2, 1, 1, 2, 1200⟩], [1]⟩
def exT : List Tariff := [⟨0, [⟨1, 15, 0, []⟩, ⟨2, 15, 0, []⟩]⟩]
def rawR : List (List CV) := [[.int .i64 1, .int .i64 15, .int .i64 0, .nil], [.int .i64 2, .int .i64 15, .int .i64 0, .nil]]
def rawT : List (List CV) := [[.int .i64 0, .sl 4 rawR]]
def exD : List Ride := [⟨1, 1, 7, 1, 1, 1, 5⟩, ⟨1, 2, 7, 1, 1, 2, 5⟩, ⟨1, 3, 7, 1, 1, 1, 5⟩]
theorem raw_le : leD (.sl 2 rawT) (.sl 2 (exT.map encT)) := by
  refine .sl _ _ _ rfl rfl (by intro e he; simp [exT] at he; subst he; rfl) fun i c c' h h' => ?_
  match i, h, h' with
  | 0, h, h' => cases h; cases h'; exact .same _
  | 1, h, h' =>
    cases h; cases h'
    refine .sl _ _ _ rfl rfl (by intro e he; simp at he; rcases he with rfl | rfl <;> rfl) fun i c c' h h' => ?_
    match i, h, h' with
    | 0, h, h' => cases h; cases h'; exact .same _
    | 1, h, h' => cases h; cases h'; exact .same _
    | 2, h, h' => cases h; cases h'; exact .same _
    | 3, h, h' => cases h; cases h'; exact .nil 3
    | 4, h, h' => cases h; cases h'; exact .same _
    | 5, h, h' => cases h; cases h'; exact .same _
    | 6, h, h' => cases h; cases h'; exact .same _
    | 7, h, h' => cases h; cases h'; exact .nil 3
    | n + 8, h, h' => cases h
  | n + 2, h, h' => cases h
theorem exR : Rates exT := by
  intro t ht
  simp [exT] at ht
  subst ht
  refine ⟨by decide, fun y hy => ?_⟩
  simp at hy
  rcases hy with rfl | rfl <;> exact ⟨⟨by decide, by decide⟩, ⟨by decide, by decide⟩, by decide⟩
theorem exB : BkP exM exT exD := by
  refine ⟨⟨⟨by decide, by decide⟩, by decide, by decide⟩, fun x hx => ?_, by decide, exR, by decide⟩
  simp [exM] at hx
  rcases hx with rfl | rfl <;> exact ⟨by decide, by decide⟩
def s7 : Sale := ⟨7, 1, 3, 0, 1000, 100⟩
def s8 : Sale := ⟨8, 1, 3, 0, 1000, 100⟩
def sL : List Sale := [⟨7, 1, 1, 0, 45, 0⟩, ⟨8, 1, 2, 0, 5, 5⟩]
def sX : List Sale := [⟨7, 1, 1, 0, 0, 1⟩]
def sZ : List Sale := [⟨0, 0, 0, 0, 0, 0⟩]
theorem s7P : SaP s7 := ⟨by decide, by decide, by decide⟩
theorem s8P : SaP s8 := ⟨by decide, by decide, by decide⟩
theorem p7 : ptsAll exM exT exD 7 = [30, 15, 0, 0, 0, 0, 0, 0] := by decide +kernel
theorem p8 : ptsAll exM exT exD 8 = [0, 0, 0, 0, 0, 0, 0, 0] := by decide +kernel
theorem parts0 {a : Int} {ws Q : List Int} (h0 : leftN a ws = 0) (hQ : qL a ws = Q) : partsL a ws = Q := by
  rw [partsL, h0, List.take_zero, hQ]; rfl
theorem o7 : ofL exM exT exD s7 = [⟨1, 600⟩, ⟨2, 300⟩, ⟨3, 100⟩] := by
  rw [ofL_eq (exB.of s7P), sharesOf, moreOf, cutOf, ptsOf, show s7.serial = 7 from rfl, p7, show restOf s7 = 900 from rfl, if_pos (by decide +kernel), if_pos (by decide +kernel), parts0 (Q := [600, 300, 0, 0, 0, 0, 0, 0]) (by decide +kernel) (by decide +kernel)]
  decide +kernel
theorem o8 : ofL exM exT exD s8 = [⟨3, 1000⟩] := by
  rw [ofL_eq (exB.of s8P), sharesOf, moreOf, cutOf, ptsOf, show s8.serial = 8 from rfl, p8, show restOf s8 = 900 from rfl, if_neg (by decide +kernel), if_neg (by decide +kernel)]
  decide +kernel
theorem sL0 : salesE sL = 0 := by decide +kernel
theorem sX1 : salesE sX = 1 := by decide +kernel
theorem sZ2 : salesE sZ = 2 := by decide +kernel
theorem oL : allR exM exT exD sL = [⟨1, 30⟩, ⟨2, 20⟩] := by
  have hok := sale_ok sL0
  have h1 := exB.of (hok ⟨7, 1, 1, 0, 45, 0⟩ (by simp [sL]))
  have h2 := exB.of (hok ⟨8, 1, 2, 0, 5, 5⟩ (by simp [sL]))
  have e1 : ofL exM exT exD ⟨7, 1, 1, 0, 45, 0⟩ = [⟨1, 30⟩, ⟨2, 15⟩] := by
    rw [ofL_eq h1, sharesOf, moreOf, cutOf, ptsOf, p7, show restOf ⟨7, 1, 1, 0, 45, 0⟩ = 45 from rfl, if_pos (by decide +kernel), if_pos (by decide +kernel), parts0 (Q := [30, 15, 0, 0, 0, 0, 0, 0]) (by decide +kernel) (by decide +kernel)]
    decide +kernel
  have e2 : ofL exM exT exD ⟨8, 1, 2, 0, 5, 5⟩ = [⟨2, 5⟩] := by
    rw [ofL_eq h2, sharesOf, moreOf, cutOf, ptsOf, p8, show restOf ⟨8, 1, 2, 0, 5, 5⟩ = 0 from rfl, if_neg (by decide +kernel), if_neg (by decide +kernel)]
    decide +kernel
  rw [allR, if_pos sL0, allL, sL, List.flatMap_cons, List.flatMap_cons, List.flatMap_nil, e1, e2]
  decide +kernel
theorem oX : allR exM exT exD sX = [] := if_neg (by rw [sX1]; decide)
end Go.Proofs.Ytbglmocgijlomaa
