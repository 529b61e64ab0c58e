/- cmp.Compare and cmp.Or at int. -/
import Derived.Test.YtgjcoebfiangcaaRows
import Derived.Test.YtgjcoebfiangcaaZMem
namespace Go.Proofs.Ytgjcoebfiangcaa.Old
open Go.RowKit

/-- An int's one cell. -/
def encI (n : Int) : List Value := [.int .i64 n]
theorem encI_len (n : Int) : (encI n).length = 1 := rfl

def cmpI (a b : Int) : Int := if a < b then -1 else if b < a then 1 else 0

theorem nan_any (a : Int) (w : World) : Calls Try.prog 38 #[.int .i64 a] w fun e w' => e = .returned (.bool false) ∧ w = w' := by
  go_enter Try.func38, Try.ntmps38
  go_wp2
  go_ret
  exact ⟨by simp, rfl⟩

theorem compare_any (a b : Int) (w : World) : Calls Try.prog 33 #[.int .i64 a, .int .i64 b] w fun e w' => e = .returned (.int .i64 (cmpI a b)) ∧ w = w' := by
  by_cases h1 : a < b
  · go_enter Try.func33, Try.ntmps33
    go_wp2_with (go_at_call 38; refine (nan_any _ _).mono ?_; rintro e w' ⟨rfl, rfl⟩)
    go_ret
    exact ⟨ret_int (by rw [cmpI, if_pos h1]), rfl⟩
  · by_cases h2 : b < a
    · go_enter Try.func33, Try.ntmps33
      go_wp2_with (go_at_call 38; refine (nan_any _ _).mono ?_; rintro e w' ⟨rfl, rfl⟩)
      go_ret
      exact ⟨ret_int (by rw [cmpI, if_neg (by omega), if_pos h2]), rfl⟩
    · go_enter Try.func33, Try.ntmps33
      go_wp2_with (go_at_call 38; refine (nan_any _ _).mono ?_; rintro e w' ⟨rfl, rfl⟩)
      go_ret
      exact ⟨ret_int (by rw [cmpI, if_neg (by omega), if_neg (by omega)]), rfl⟩

/-- The first number that is not 0, or 0. -/
def orI : List Int → Int
  | [] => 0
  | x :: r => if x = 0 then orI r else x
theorem orI_step {xs : List Int} {k : Nat} {x : Int} (hx : xs[k]? = some x) : orI (xs.drop k) = if x = 0 then orI (xs.drop (k + 1)) else x := by
  obtain ⟨hk, rfl⟩ := List.getElem?_eq_some_iff.1 hx
  rw [List.drop_eq_getElem_cons hk, orI]

theorem or_any (xs : List Int) (v : Value) (w : World) (hv : Row encI 1 w v xs) :
    Calls Try.prog 32 #[v] w fun e w' => e = .returned (.int .i64 (orI xs)) ∧ w = w' := by
  obtain ⟨A, c, rfl, hc1, hc2, hcells⟩ := hv
  have H := Lib.hid hcells; clear hcells
  go_enter Try.func32, Try.ntmps32
  go_wp2
  go_loop [8] (fun i => ∃ k : Nat, k ≤ xs.length ∧ i = .int .i64 k ∧ Hid (orI xs = orI (xs.drop k))) (fun i => xs.length - (intOf i).toNat)
  case atStart => exact ⟨0, Nat.zero_le _, rfl, Lib.hid (by simp)⟩
  case round =>
    obtain ⟨k, hk, rfl, hr⟩ := hrel
    by_cases hlt : k < xs.length
    · obtain ⟨b, off, rfl, hbl, hcl⟩ := H.out (by omega)
      have hx : xs[k]? = some xs[k] := List.getElem?_eq_getElem hlt
      have c0 := hcl k _ hx 0 _ rfl
      rw [Nat.add_zero, Nat.mul_one] at c0
      have HX := Lib.hid (orI_step hx)
      clear hcl hx H
      generalize xs[k] = x at *
      by_cases h0 : x = 0
      · have hq : (x != 0) = false := by simpa using h0
        have HR := Lib.hid h0; clear h0
        go_wp2
        exact ⟨⟨k + 1, by omega, by go_num, Lib.hid (by rw [hr.out, HX.out, if_pos HR.out])⟩, by simp [intOf]; omega⟩
      · have hq : (x != 0) = true := by simpa using h0
        have HR := Lib.hid h0; clear h0
        go_wp2
        go_ret
        exact ⟨ret_int (by rw [hr.out, HX.out, if_neg HR.out]), rfl⟩
    · go_wp2
      go_ret
      exact ⟨ret_int (by rw [hr.out, List.drop_eq_nil_of_le (by omega), orI]), rfl⟩
end Go.Proofs.Ytgjcoebfiangcaa.Old
