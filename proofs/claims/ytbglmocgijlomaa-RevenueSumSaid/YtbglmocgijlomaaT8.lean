/- Tariffs: plain. No program in sight. -/
import Derived.Test.YtbglmocgijlomaaT7
namespace Go.Proofs.Ytbglmocgijlomaa
open Go.RowKit

structure Rate where
  l : Int
  p : Int
  x : Int
  peak : List Hours
structure Tariff where
  frm : Int
  rates : List Rate
structure Ride where
  gate : Int
  seq : Int
  serial : Int
  counter : Int
  product : Int
  lift : Int
  time : Int
def rate0 : Rate := ⟨0, 0, 0, []⟩
def tar0 : Tariff := ⟨0, []⟩
abbrev encR (r : Rate) : List CV := [.int .i64 r.l, .int .i64 r.p, .int .i64 r.x, .sl 3 (r.peak.map encH)]
abbrev encT (t : Tariff) : List CV := [.int .i64 t.frm, .sl 4 (t.rates.map encR)]
abbrev encD (r : Ride) : List CV := [.int .i64 r.gate, .int .i64 r.seq, .int .i64 r.serial, .int .i64 r.counter, .int .i64 r.product, .int .i64 r.lift, .int .i64 r.time]
abbrev aD (r : Ride) : SV := .agg ((encD r).map .c)
def rateP (x : Rate) : Prop := (1 ≤ x.l ∧ x.l ≤ 9999) ∧ (1 ≤ x.p ∧ x.p ≤ 10000) ∧ 0 ≤ x.x ∧ x.x ≤ 1000
instance (x : Rate) : Decidable (rateP x) := by unfold rateP; infer_instance
def twiceB (l : List Rate) (k : Nat) (n : Int) : Bool := (l.take k).any fun y => decide (y.l = n)
def rateE (l : List Rate) (k : Nat) : Int := if ¬ rateP (at_ l rate0 k) then 2 else if twiceB l k (at_ l rate0 k).l = true then 7 else if rightF (at_ l rate0 k).peak = false then 1 else 0
def tarE (l : List Tariff) (k : Nat) : Int := if (at_ l tar0 k).frm < 0 ∨ 20000000 < (at_ l tar0 k).frm ∨ (k = 0 ∧ (at_ l tar0 k).frm ≠ 0) then 2 else if 0 < k ∧ (at_ l tar0 k).frm ≤ (at_ l tar0 (k - 1)).frm then 11 else if 32 < (at_ l tar0 k).rates.length then 4 else fe (rateE (at_ l tar0 k).rates) (at_ l tar0 k).rates.length
def tarsE (l : List Tariff) : Int := if l.length = 0 then 8 else if 16 < l.length then 4 else fe (tarE l) l.length
def okT (l : List Tariff) : Prop := l.length ≤ 9223372036854775807 ∧ ∀ t ∈ l, t.rates.length ≤ 9223372036854775807 ∧ ∀ y ∈ t.rates, y.peak.length ≤ 9223372036854775807
theorem twice_yes {l : List Rate} {k i : Nat} {n : Int} {y : Rate} (hi : i < k) (hy : l[i]? = some y) (h : y.l = n) : twiceB l k n = true :=
  List.any_eq_true.2 ⟨y, List.mem_of_getElem? (i := i) (by rw [List.getElem?_take, if_pos hi]; exact hy), decide_eq_true h⟩
theorem twice_no {l : List Rate} {k : Nat} {n : Int} (h : ∀ y ∈ l.take k, decide (y.l = n) = false) : twiceB l k n = false := by
  cases hb : twiceB l k n with
  | false => rfl
  | true =>
    obtain ⟨y, hy, e⟩ := List.any_eq_true.1 hb
    rw [h y hy] at e; cases e
/-- What the rates of right tariffs are like. -/
def Rates (l : List Tariff) : Prop := ∀ t ∈ l, t.rates.length ≤ 32 ∧ ∀ y ∈ t.rates, (0 ≤ y.p ∧ y.p ≤ 10000) ∧ (0 ≤ y.x ∧ y.x ≤ 1000) ∧ y.peak.length ≤ 16
theorem tarsE_rates {l : List Tariff} (h : tarsE l = 0) : l.length ≤ 16 ∧ Rates l := by
  unfold tarsE at h
  split at h
  · omega
  split at h
  · omega
  refine ⟨by omega, fun t ht => ?_⟩
  obtain ⟨k, hk⟩ := List.getElem?_of_mem ht
  have hE := fe_all h k (List.getElem?_eq_some_iff.1 hk).1
  unfold tarE at hE
  rw [at_of hk] at hE
  split at hE
  · omega
  split at hE
  · omega
  split at hE
  · omega
  rename_i h32
  refine ⟨by omega, fun y hy => ?_⟩
  obtain ⟨j, hj⟩ := List.getElem?_of_mem hy
  have hR := fe_all hE j (List.getElem?_eq_some_iff.1 hj).1
  unfold rateE at hR
  rw [at_of hj] at hR
  split at hR
  · omega
  rename_i h1
  split at hR
  · omega
  split at hR
  · omega
  rename_i h3
  have h1 := Decidable.not_not.1 h1
  unfold rateP at h1
  have h4 : rightF y.peak = true := by cases hb : rightF y.peak with
    | true => rfl
    | false => exact absurd hb h3
  exact ⟨by omega, by omega, (of_decide_eq_true h4).1⟩
/-- The last element that is in force. -/
def lastB (p : Nat → Bool) : Nat → Int
  | 0 => -1
  | n + 1 => if p n = true then (n : Int) else lastB p n
def inForce (l : List Tariff) (t : Int) (k : Nat) : Bool := decide ((at_ l tar0 k).frm ≤ t)
def tarAt (l : List Tariff) (t : Int) : Nat → Option Tariff
  | 0 => none
  | n + 1 => if inForce l t n = true then some (at_ l tar0 n) else tarAt l t n
theorem lastB_yes {p : Nat → Bool} {n : Nat} (h : p n = true) : lastB p (n + 1) = n := if_pos h
theorem lastB_no {p : Nat → Bool} {n : Nat} (h : p n = false) : lastB p (n + 1) = lastB p n := if_neg (by simp [h])
theorem tarAt_yes {l : List Tariff} {t : Int} {n : Nat} (h : inForce l t n = true) : tarAt l t (n + 1) = some (at_ l tar0 n) := if_pos h
theorem tarAt_no {l : List Tariff} {t : Int} {n : Nat} (h : inForce l t n = false) : tarAt l t (n + 1) = tarAt l t n := if_neg (by simp [h])
theorem last_at (l : List Tariff) (t : Int) : ∀ n : Nat, (lastB (inForce l t) n = -1 ∧ tarAt l t n = none) ∨ ∃ i : Nat, (i < n ∧ lastB (inForce l t) n = i) ∧ tarAt l t n = some (at_ l tar0 i)
  | 0 => .inl ⟨rfl, rfl⟩
  | n + 1 => by
    cases h : inForce l t n with
    | true => exact .inr ⟨n, ⟨by omega, lastB_yes h⟩, tarAt_yes h⟩
    | false =>
      rw [lastB_no h, tarAt_no h]
      rcases last_at l t n with h | ⟨i, ⟨h1, h2⟩, h3⟩
      · exact .inl h
      · exact .inr ⟨i, ⟨by omega, h2⟩, h3⟩
/-- What a ride counts by a list of rates. -/
def ptsR (l : List Rate) (lift t : Int) : Int := match firstOf (fun y => decide (y.l = lift)) l with
  | none => 0
  | some y => if inP y.peak t then y.p + y.p * y.x / 1000 else y.p
def ptsF (l : List Tariff) (r : Ride) : Int := match tarAt l r.time l.length with
  | none => 0
  | some t => ptsR t.rates r.lift r.time
theorem pts_none {l : List Rate} {lift t : Int} (h : ∀ y ∈ l, decide (y.l = lift) = false) : ptsR l lift t = 0 := by unfold ptsR; rw [first_none h]
theorem pts_some {l : List Rate} {lift t : Int} {k : Nat} {y : Rate} (hy : l[k]? = some y) (hn : ∀ z ∈ l.take k, decide (z.l = lift) = false) (h : y.l = lift) : ptsR l lift t = if inP y.peak t then y.p + y.p * y.x / 1000 else y.p := by unfold ptsR; rw [first_at hy hn (decide_eq_true h)]
end Go.Proofs.Ytbglmocgijlomaa
