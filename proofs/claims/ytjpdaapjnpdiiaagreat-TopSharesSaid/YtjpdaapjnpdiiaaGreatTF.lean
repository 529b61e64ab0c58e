/- A part of the proof. -/
import Derived.Test.YtjpdaapjnpdiiaaGreatTE
namespace Go.Proofs.YtjpdaapjnpdiiaaGreat
open Go.RowKit
structure Sale where
 serial : Int
 product : Int
 seller : Int
 time : Int
 paid : Int
 fee : Int
abbrev encE (s : Sale) : List CV := [.int .i64 s.serial, .int .i64 s.product, .int .i64 s.seller, .int .i64 s.time, .int .i64 s.paid, .int .i64 s.fee]
abbrev aE (s : Sale) : SV := .agg ((encE s).map .c)
def sale0 : Sale := ⟨0, 0, 0, 0, 0, 0⟩
def saleP (x : Sale) : Prop := within x.serial 1 9999 ∧ within x.product 1 9999 ∧ within x.seller 1 8 ∧ within x.time 0 20000000 ∧ within x.paid 0 100000000
instance (x : Sale) : Decidable (saleP x) := by unfold saleP; infer_instance
def seenB (l : List Sale) (k : Nat) (n : Int) : Bool := (l.take k).any fun y => decide (y.serial = n)
def saleE (l : List Sale) (k : Nat) : Int := if ¬ saleP (at_ l sale0 k) then 2 else if ¬ within (at_ l sale0 k).fee 0 (at_ l sale0 k).paid then 1 else if seenB l k (at_ l sale0 k).serial = true then 7 else 0
def salesE (l : List Sale) : Int := if 2000 < l.length then 4 else fe (saleE l) l.length
theorem seen_yes {l : List Sale} {k i : Nat} {n : Int} {y : Sale} (hi : i < k) (hy : l[i]? = some y) (h : y.serial = n) : seenB l k n = true :=
 List.any_eq_true.2 ⟨y, List.mem_of_getElem? (i := i) (by rw [List.getElem?_take, if_pos hi]; exact hy), decide_eq_true h⟩
theorem seen_no {l : List Sale} {k : Nat} {n : Int} (h : ∀ y ∈ l.take k, decide (y.serial = n) = false) : seenB l k n = false := by
 cases hb : seenB l k n with
 | false => rfl
 | true =>
   obtain ⟨y, hy, e⟩ := List.any_eq_true.1 hb
   rw [h y hy] at e; cases e
def keysE (l : List Sale) (k : Nat) : List Int := (l.take k).map fun x => x.serial
theorem seen_iff {l : List Sale} {k : Nat} {n : Int} : n ∈ keysE l k ↔ seenB l k n = true := by
 rw [seenB, List.any_eq_true, keysE, List.mem_map]
 exact ⟨fun ⟨y, hy, e⟩ => ⟨y, hy, decide_eq_true e⟩, fun ⟨y, hy, e⟩ => ⟨y, hy, of_decide_eq_true e⟩⟩
theorem keysE_snoc {l : List Sale} {k : Nat} {x : Sale} (h : l[k]? = some x) : keysE l (k + 1) = keysE l k ++ [x.serial] := by
 rw [keysE, take_snoc l k x h, List.map_append]; rfl
def kvB (ks : List Int) : List (List Int × List CV) := ks.map fun o => ([o], [CV.bool true])
theorem findB_in {o : Int} : ∀ {ks : List Int}, o ∈ ks → findKV [o] (kvB ks) = some [CV.bool true]
 | [], h => by simp at h
 | y :: r, h => by
   rw [kvB, List.map_cons, findKV]
   by_cases e : o = y
   · rw [if_pos (by rw [e])]
   · rw [if_neg (by intro h; simp at h; exact e h)]
     exact findB_in (by rcases List.mem_cons.1 h with h | h; exact absurd h e; exact h)
theorem findB_out {o : Int} : ∀ {ks : List Int}, o ∉ ks → findKV [o] (kvB ks) = none
 | [], _ => rfl
 | y :: r, h => by
   rw [kvB, List.map_cons, findKV, if_neg (by intro e; simp at e; exact h (by simp [e]))]
   exact findB_out fun e => h (by simp [e])
theorem setB_out {o : Int} : ∀ {ks : List Int}, o ∉ ks → setKV [o] [CV.bool true] (kvB ks) = kvB (ks ++ [o])
 | [], _ => rfl
 | y :: r, h => by
   rw [kvB, List.map_cons, setKV, if_neg (by intro e; simp at e; exact h (by simp [e]))]
   have ih := setB_out (o := o) (ks := r) fun e => h (List.mem_cons_of_mem _ e)
   rw [kvB] at ih
   rw [ih]; rfl
theorem lookB_in {ks : List Int} {o : Int} (h : o ∈ ks) {K : SV → Prop} (hK : K (.c (.bool true))) : (∀ l, findKV [o] (kvB ks) = some l → gotV false false l true K) ∧ (findKV [o] (kvB ks) = none → gotV false false [.bool false] false K) :=
 ⟨fun l hl => by rw [findB_in h] at hl; cases hl; exact hK, fun e => by rw [findB_in h] at e; cases e⟩
theorem lookB_out {ks : List Int} {o : Int} (h : o ∉ ks) {K : SV → Prop} (hK : K (.c (.bool false))) : (∀ l, findKV [o] (kvB ks) = some l → gotV false false l true K) ∧ (findKV [o] (kvB ks) = none → gotV false false [.bool false] false K) :=
 ⟨fun l hl => (by rw [findB_out h] at hl; cases hl), fun _ => hK⟩
end Go.Proofs.YtjpdaapjnpdiiaaGreat
