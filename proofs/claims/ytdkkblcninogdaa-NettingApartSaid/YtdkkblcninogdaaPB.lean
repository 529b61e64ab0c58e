/- The examples. No program in sight. -/
import Derived.Test.YtdkkblcninogdaaPA
namespace Go.Proofs.Ytdkkblcninogdaa

def ofFrom (k : Int) : List Int → List Share
  | [] => []
  | x :: r => ⟨k, x⟩ :: ofFrom (k + 1) r
def ofL (xs : List Int) : List Share := ofFrom 1 xs
theorem ofFrom_snoc (x : Int) : ∀ (xs : List Int) (k : Int), ofFrom k (xs ++ [x]) = ofFrom k xs ++ [⟨k + xs.length, x⟩]
  | [], k => by simp [ofFrom]
  | y :: r, k => by
    simp only [List.cons_append, ofFrom, ofFrom_snoc x r (k + 1), List.length_cons]
    rw [show k + 1 + (r.length : Int) = k + ((r.length + 1 : Nat) : Int) by omega]
theorem ofL_take {xs : List Int} {k : Nat} {x : Int} (h : xs[k]? = some x) : ofL (xs.take (k + 1)) = ofL (xs.take k) ++ [⟨k + 1, x⟩] := by
  have hk := (List.getElem?_eq_some_iff.1 h).1
  unfold ofL
  rw [take_snoc xs k x h, ofFrom_snoc, List.length_take, Nat.min_eq_left (by omega)]
  rw [show (1 : Int) + (k : Int) = (k : Int) + 1 by omega]
theorem ofL_len (xs : List Int) : (ofL xs).length = xs.length := by
  unfold ofL
  have : ∀ (xs : List Int) (k : Int), (ofFrom k xs).length = xs.length := by
    intro xs
    induction xs with
    | nil => intro k; rfl
    | cons x r ih => intro k; simp [ofFrom, ih]
  exact this xs 1
def twoL : List Tfer := [⟨2, 1, 20⟩, ⟨3, 1, 30⟩]
theorem r1 : rightF (ofL [50, -20, -30]) = 0 := by decide
theorem r2 : rightF (ofL [5, -4]) = 1 := by decide
theorem p1 : RightP (ofL [50, -20, -30]) := right_iff.1 r1
theorem p2 : RightP (ofL [5, -5, 7, -7]) := right_iff.1 (by decide)
theorem p3 : RightP (ofL [5, -3, 7, -9]) := right_iff.1 (by decide)
theorem p4 : RightP (ofL [0, 0]) := right_iff.1 (by decide)
theorem p5 : RightP [] := right_iff.1 (by decide)
theorem v1 : validB (ofL [50, -20, -30]) twoL = true := by decide
theorem v2 : validB (ofL [50, -20, -30]) [⟨2, 1, 20⟩] = false := by decide
theorem l1 : leastF (ofL [50, -20, -30]) = 2 := by decide +kernel
theorem l2 : leastF (ofL [5, -5, 7, -7]) = 2 := by decide +kernel
theorem l3 : leastF (ofL [5, -3, 7, -9]) = 3 := by decide +kernel
theorem l4 : leastF (ofL [0, 0]) = 0 := by decide +kernel
theorem l5 : leastF [] = 0 := by decide +kernel
theorem n1 : (netF (ofL [50, -20, -30])).length = 2 := (netF_spec p1).len.trans l1
theorem n2 : (netF []).length = 0 := (netF_spec p5).len.trans l5
end Go.Proofs.Ytdkkblcninogdaa
