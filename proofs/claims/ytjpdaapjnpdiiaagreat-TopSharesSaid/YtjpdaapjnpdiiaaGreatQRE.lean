/- A part of the proof. -/
import Derived.Test.YtjpdaapjnpdiiaaGreatQRD
namespace Go.Proofs.YtjpdaapjnpdiiaaGreat.P
open Go.RowKit
def addF (l : List Pst) (p : Pst) : List Pst := if p ∈ l then l else l ++ [p]
def postF (l : List Pst) (p : Pst) : List Pst × Int := if ledR l ≠ 0 then ([], ledR l) else if ledR (addF l p) ≠ 0 then ([], ledR (addF l p)) else (addF l p, 0)
theorem addF_len (l : List Pst) (p : Pst) : (addF l p).length ≤ l.length + 1 := by unfold addF; split <;> simp
theorem postF_len (l : List Pst) (p : Pst) : (postF l p).1.length ≤ l.length + 1 := by
 unfold postF
 split
 · simp
 · split
   · simp
   · exact addF_len l p
def refP (n : Int) (i : Nat) (t : Tfer) : Pst := ⟨n * 100 + i + 1, t.f, t.t, t.a⟩
def postAll (n : Int) : Nat → List Tfer → List Pst → List Pst × Int
 | _, [], po => (po, 0)
 | i, t :: r, po => if (postF po (refP n i t)).2 ≠ 0 then ([], (postF po (refP n i t)).2) else postAll n (i + 1) r (postF po (refP n i t)).1
theorem postAll_bad {n : Int} {i : Nat} {t : Tfer} {r : List Tfer} {po : List Pst} (h : (postF po (refP n i t)).2 ≠ 0) : postAll n i (t :: r) po = ([], (postF po (refP n i t)).2) := by unfold postAll; rw [if_pos h]
theorem postAll_go {n : Int} {i : Nat} {t : Tfer} {r : List Tfer} {po : List Pst} (h : (postF po (refP n i t)).2 = 0) : postAll n i (t :: r) po = postAll n (i + 1) r (postF po (refP n i t)).1 := by rw [postAll, if_neg (Decidable.not_not.2 h)]
def cloT (due rec : List Share) : List Tfer := netF (posL due rec)
def clsE (b : Bk) (n : Int) (due rec : List Share) : Int := if n < 1 ∨ (b.ps.length : Int) < n then 8 else if n ≠ firstC b.ps then 10 else if accB due = false ∨ accB rec = false ∨ sumA due ≠ sumA rec then 1 else (postAll n 0 (cloT due rec) b.po).2
def shut (x : Per) (due : List Share) : Per := ⟨x.num, x.fr, x.to, true, due⟩
def clsB (b : Bk) (n : Int) (due rec : List Share) : Bk := if clsE b n due rec ≠ 0 then bk0 else ⟨b.ps.set (n - 1).toNat (shut (at_ b.ps per0 (n - 1).toNat) due), (postAll n 0 (cloT due rec) b.po).1, b.rs⟩
def clsX (b : Bk) (n : Int) (due rec : List Share) : SV := .tup [aB (clsB b n due rec), I (clsE b n due rec)]
theorem clsX_err {b : Bk} {n : Int} {due rec : List Share} {e : Int} (h : clsE b n due rec = e) (he : e ≠ 0) : clsX b n due rec = .tup [aB bk0, I e] := by unfold clsX clsB; rw [h, if_pos he]
theorem clsX_ok {b : Bk} {n : Int} {due rec : List Share} {x : Per} {po : List Pst} (h : clsE b n due rec = 0) (hx : b.ps[(n - 1).toNat]? = some x) (hp : (postAll n 0 (cloT due rec) b.po).1 = po) :
   clsX b n due rec = .tup [.agg [L 5 ((b.ps.map encP).set (n - 1).toNat (encP (shut x due))), L 4 (po.map encO), L 8 (b.rs.map encC)], I 0] := by
 unfold clsX clsB
 rw [h, if_neg (by decide), at_of hx, hp, ← List.map_set]
theorem sum_ops : ∀ {l : List Share}, (∀ x ∈ l, 1 ≤ x.o ∧ x.o ≤ 8) → (opsL.map (posAt l)).sum = sumA l
 | [], _ => rfl
 | x :: r, h => by
   have ih := sum_ops (l := r) fun y hy => h y (List.mem_cons_of_mem _ hy)
   obtain ⟨h1, h2⟩ := h x (List.mem_cons_self ..)
   have e : sumA (x :: r) = x.a + sumA r := rfl
   rw [e, ← ih]
   have hv : x.o = 1 ∨ x.o = 2 ∨ x.o = 3 ∨ x.o = 4 ∨ x.o = 5 ∨ x.o = 6 ∨ x.o = 7 ∨ x.o = 8 := by omega
   simp only [opsL, List.map_cons, List.map_nil, List.sum_cons, List.sum_nil, posAt]
   rcases hv with e | e | e | e | e | e | e | e <;> rw [e] <;> simp <;> omega
theorem sum_filter {p : Int → Bool} {f : Int → Int} : ∀ {l : List Int}, (∀ n ∈ l, p n = false → f n = 0) → ((l.filter p).map f).sum = (l.map f).sum
 | [], _ => rfl
 | n :: r, h => by
   have ih := sum_filter (p := p) (f := f) (l := r) fun m hm => h m (List.mem_cons_of_mem _ hm)
   rw [List.filter_cons]
   cases hp : p n with
   | true => rw [if_pos rfl, List.map_cons, List.map_cons, List.sum_cons, List.sum_cons, ih]
   | false => rw [if_neg Bool.false_ne_true, List.map_cons, List.sum_cons, ih, h n (List.mem_cons_self ..) hp]; omega
theorem sum_sub (f g : Int → Int) : ∀ l : List Int, (l.map fun n => f n - g n).sum = (l.map f).sum - (l.map g).sum
 | [] => rfl
 | n :: r => by rw [List.map_cons, List.map_cons, List.map_cons, List.sum_cons, List.sum_cons, List.sum_cons, sum_sub f g r]; omega
theorem posL_sum {due rec : List Share} (h1 : accB due = true) (h2 : accB rec = true) : sumA (posL due rec) = sumA due - sumA rec := by
 have e : sumA (posL due rec) = ((posK due rec).map (posF due rec)).sum := by unfold posL sumA amt; rw [List.map_map]; rfl
 rw [e]
 unfold posK
 rw [sum_filter fun n _ hn => ?_]
 · show (opsL.map fun n => posAt due n - posAt rec n).sum = _
   rw [sum_sub, sum_ops fun x hx => (acc_ok h1 x hx).1, sum_ops fun x hx => (acc_ok h2 x hx).1]
 · rw [Bool.or_eq_false_iff] at hn
   show posAt due n - posAt rec n = 0
   rw [posAt_zero' hn.1, posAt_zero' hn.2]; rfl
theorem posL_right {due rec : List Share} (h1 : accB due = true) (h2 : accB rec = true) (h : sumA due = sumA rec) : RightP (posL due rec) := by
 refine ⟨by unfold posL; rw [List.length_map]; exact posK_len due rec, fun x hx => ?_, ?_, by rw [posL_sum h1 h2, h]; omega⟩
 · obtain ⟨n, hn, rfl⟩ := List.mem_map.1 hx
   have hm := mem_ops.1 (List.mem_filter.1 hn).1
   have b1 := posAt_bnd h1 n
   have b2 := posAt_bnd h2 n
   have e : posF due rec n = posAt due n - posAt rec n := rfl
   exact ⟨hm, by dsimp only; omega, by dsimp only; omega⟩
 · unfold posL
   rw [List.pairwise_map]
   exact (show opsL.Pairwise (· < ·) by decide).sublist List.filter_sublist
theorem least_8 {l : List Share} (h : RightP l) : (netF l).length ≤ 8 := by
 have h1 := (nzl_nz h).len
 rw [(netF_spec h).len]
 unfold leastF
 omega
theorem cloT_len {due rec : List Share} (h1 : accB due = true) (h2 : accB rec = true) (h : sumA due = sumA rec) : (cloT due rec).length ≤ 8 := least_8 (posL_right h1 h2 h)
end Go.Proofs.YtjpdaapjnpdiiaaGreat.P
