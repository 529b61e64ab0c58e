/- A part of the proof. -/
import Derived.Test.YtjpdaapjnpdiiaaGreatQRG
namespace Go.Proofs.YtjpdaapjnpdiiaaGreat.P
open Go.RowKit
instance (b : Bk) : Decidable (smB b) := by unfold smB; infer_instance
theorem okB_sm {b : Bk} (h : smB b) : okB b := ⟨⟨Nat.le_trans h.1.1 (by decide), Nat.le_trans h.1.2.1 (by decide)⟩, Nat.le_trans h.1.2.2 (by decide), fun p hp => Nat.le_trans (h.2 p hp) (by decide)⟩
def rd (s t : Int) : Ride := ⟨1, s, 7, s, 1, 1, t⟩
structure RB (b : Bk) : Prop where
 p64 : b.ps.length ≤ 64
 r2000 : b.rs.length ≤ 2000
 pers : persE b.ps = 0
 led : ledR b.po = 0
 cnt : cntR b = 0
theorem rb_of {b : Bk} (h : rightB b = 0) : RB b := by
 unfold rightB at h
 by_cases h1 : 64 < b.ps.length ∨ 2000 < b.rs.length
 · rw [if_pos h1] at h; cases h
 rw [if_neg h1] at h
 by_cases h2 : persE b.ps ≠ 0
 · rw [if_pos h2] at h; exact absurd h h2
 rw [if_neg h2] at h
 by_cases h3 : ledR b.po ≠ 0
 · rw [if_pos h3] at h; exact absurd h h3
 rw [if_neg h3] at h
 exact ⟨by omega, by omega, Decidable.not_not.1 h2, Decidable.not_not.1 h3, h⟩
theorem RB.right {b : Bk} (h : RB b) : rightB b = 0 := by
 unfold rightB
 rw [if_neg (by have := h.p64; have := h.r2000; omega), if_neg (by rw [h.pers]; decide), if_neg (by rw [h.led]; decide)]
 exact h.cnt
theorem led_len {l : List Pst} (h : ledR l = 0) : l.length ≤ 2000 := by
 unfold ledR at h
 by_cases h1 : 2000 < l.length
 · rw [if_pos h1] at h; cases h
 · omega
structure PerP (l : List Per) (k : Nat) (x : Per) : Prop where
 num : x.num = (k : Int) + 1
 fr : x.fr = endOf (l.take k)
 lt : x.fr < x.to
 le : x.to ≤ 20000000
 ord : x.cl = true → (l.take k).any opB = false
 emp : x.cl = false → x.sh.length = 0
 acc : accB x.sh = true
theorem perE_iff {l : List Per} {k : Nat} {x : Per} (hx : l[k]? = some x) : perE l k = 0 ↔ PerP l k x := by
 unfold perE
 rw [at_of hx]
 by_cases c1 : x.num ≠ (k : Int) + 1 ∨ x.fr ≠ endOf (l.take k) ∨ x.to ≤ x.fr ∨ 20000000 < x.to
 · rw [if_pos c1]
   refine ⟨fun h => (by cases h), fun h => ?_⟩
   rcases c1 with c | c | c | c
   · exact absurd h.num c
   · exact absurd h.fr c
   · have := h.lt; omega
   · have := h.le; omega
 rw [if_neg c1]
 by_cases c2 : (x.cl = true ∧ (l.take k).any opB = true) ∨ (x.cl = false ∧ 0 < x.sh.length)
 · rw [if_pos c2]
   refine ⟨fun h => (by cases h), fun h => ?_⟩
   rcases c2 with ⟨c, d⟩ | ⟨c, d⟩
   · rw [h.ord c] at d; cases d
   · have := h.emp c; omega
 rw [if_neg c2]
 by_cases c3 : accB x.sh = false
 · rw [if_pos c3]
   refine ⟨fun h => (by cases h), fun h => ?_⟩
   rw [h.acc] at c3; cases c3
 rw [if_neg c3]
 refine ⟨fun _ => ⟨?_, ?_, ?_, ?_, fun hc => ?_, fun hc => ?_, by simpa using c3⟩, fun _ => rfl⟩
 · exact Decidable.not_not.1 fun c => c1 (.inl c)
 · exact Decidable.not_not.1 fun c => c1 (.inr (.inl c))
 · exact Int.not_le.1 fun c => c1 (.inr (.inr (.inl c)))
 · exact Int.not_lt.1 fun c => c1 (.inr (.inr (.inr c)))
 · cases h : (l.take k).any opB with
   | false => rfl
   | true => exact absurd (.inl ⟨hc, h⟩) c2
 · exact Nat.eq_zero_of_not_pos fun c => c2 (.inr ⟨hc, c⟩)
theorem fe_zero {f : Nat → Int} : ∀ {n : Nat}, (∀ k, k < n → f k = 0) → fe f n = 0
 | 0, _ => rfl
 | n + 1, h => fe_go (fe_zero fun k hk => h k (by omega)) (h n (by omega))
theorem pers_iff {l : List Per} : persE l = 0 ↔ ∀ k x, l[k]? = some x → PerP l k x := by
 refine ⟨fun h k x hx => (perE_iff hx).1 (fe_all h k (List.getElem?_eq_some_iff.1 hx).1), fun h => fe_zero fun k hk => ?_⟩
 obtain ⟨x, hx⟩ := getElem_some hk
 exact (perE_iff hx).2 (h k x hx)
structure CntP (b : Bk) (k : Nat) (x : Cnt) : Prop where
 lo : 1 ≤ x.per
 hi : x.per ≤ (b.ps.length : Int)
 ride : rideP x.r
 ends : ∀ y, b.ps[(x.per - 1).toNat]? = some y → x.r.time < y.to
 new : (b.rs.take k).any (keyB x.r.gate x.r.seq) = false
theorem cntE_iff {b : Bk} {k : Nat} {x : Cnt} (hx : b.rs[k]? = some x) : cntE b k = 0 ↔ CntP b k x := by
 unfold cntE
 rw [at_of hx]
 by_cases c1 : x.per < 1 ∨ (b.ps.length : Int) < x.per
 · rw [if_pos c1]
   exact ⟨fun h => (by cases h), fun h => (by have := h.lo; have := h.hi; omega)⟩
 rw [if_neg c1]
 obtain ⟨y, hy⟩ := getElem_some (show (x.per - 1).toNat < b.ps.length by omega)
 by_cases c2 : rideP x.r
 · rw [if_neg (Decidable.not_not.2 c2), at_of hy]
   by_cases c3 : y.to ≤ x.r.time
   · rw [if_pos c3]
     exact ⟨fun h => (by cases h), fun h => (by have := h.ends y hy; omega)⟩
   rw [if_neg c3]
   by_cases c4 : (b.rs.take k).any (keyB x.r.gate x.r.seq) = true
   · rw [if_pos c4]
     exact ⟨fun h => (by cases h), fun h => (by have := h.new; rw [c4] at this; cases this)⟩
   rw [if_neg c4]
   refine ⟨fun _ => ⟨by omega, by omega, c2, fun z hz => ?_, by simpa using c4⟩, fun _ => rfl⟩
   rw [hy] at hz; cases hz; omega
 · rw [if_pos c2]
   exact ⟨fun h => (by cases h), fun h => absurd h.ride c2⟩
theorem cnt_iff {b : Bk} : cntR b = 0 ↔ ∀ k x, b.rs[k]? = some x → CntP b k x := by
 refine ⟨fun h k x hx => (cntE_iff hx).1 (fe_all h k (List.getElem?_eq_some_iff.1 hx).1), fun h => fe_zero fun k hk => ?_⟩
 obtain ⟨x, hx⟩ := getElem_some hk
 exact (cntE_iff hx).2 (h k x hx)
theorem RB.per {b : Bk} (h : RB b) {k : Nat} {x : Per} (hx : b.ps[k]? = some x) : PerP b.ps k x := pers_iff.1 h.pers k x hx
theorem RB.cntp {b : Bk} (h : RB b) {k : Nat} {x : Cnt} (hx : b.rs[k]? = some x) : CntP b k x := cnt_iff.1 h.cnt k x hx
theorem RB.sh8 {b : Bk} (h : RB b) : ∀ p ∈ b.ps, p.sh.length ≤ 8 := fun p hp => by
 obtain ⟨k, hk⟩ := List.mem_iff_getElem?.1 hp
 exact acc_len (h.per hk).acc
theorem RB.sm {b : Bk} (h : RB b) : smB b := ⟨⟨by have := h.p64; omega, by have := led_len h.led; omega, by have := h.r2000; omega⟩, fun p hp => by have := h.sh8 p hp; omega⟩
theorem RB.ok {b : Bk} (h : RB b) : okB b := okB_sm h.sm
theorem first_eq {l : List Per} (h : persE l = 0) : firstC l = firstN l := by
 unfold firstC firstN
 cases hf : fidx opB l with
 | none => rfl
 | some i =>
   obtain ⟨x, hx, _, _⟩ := fidx_some hf
   show (at_ l per0 i).num = _
   rw [at_of hx]
   exact (pers_iff.1 h i x hx).num
theorem postF_led {po : List Pst} {p : Pst} (h : (postF po p).2 = 0) : ledR po = 0 ∧ ledR (addF po p) = 0 ∧ (postF po p).1 = addF po p := by
 unfold postF at h ⊢
 by_cases h1 : ledR po ≠ 0
 · rw [if_pos h1] at h; exact absurd h h1
 rw [if_neg h1] at h ⊢
 by_cases h2 : ledR (addF po p) ≠ 0
 · rw [if_pos h2] at h; exact absurd h h2
 rw [if_neg h2]
 exact ⟨Decidable.not_not.1 h1, Decidable.not_not.1 h2, rfl⟩
theorem postAll_cons {n : Int} {i : Nat} {t : Tfer} {r : List Tfer} {po : List Pst} (h : (postAll n i (t :: r) po).2 = 0) : (postF po (refP n i t)).2 = 0 ∧ postAll n i (t :: r) po = postAll n (i + 1) r (postF po (refP n i t)).1 := by
 by_cases hq : (postF po (refP n i t)).2 = 0
 · exact ⟨hq, postAll_go hq⟩
 · rw [postAll_bad hq] at h; exact absurd h hq
theorem postAll_led {n : Int} : ∀ (T : List Tfer) (i : Nat) (po : List Pst), ledR po = 0 → (postAll n i T po).2 = 0 → ledR (postAll n i T po).1 = 0
 | [], _, _, h, _ => h
 | t :: r, i, po, _, h2 => by
   obtain ⟨q1, q2⟩ := postAll_cons h2
   rw [q2] at h2 ⊢
   obtain ⟨_, q4, q5⟩ := postF_led q1
   exact postAll_led r (i + 1) _ (by rw [q5]; exact q4) h2
structure ClsP (b : Bk) (n : Int) (due rec : List Share) (x : Per) : Prop where
 lo : 1 ≤ n
 hi : n ≤ (b.ps.length : Int)
 at' : b.ps[(n - 1).toNat]? = some x
 first : fidx opB b.ps = some (n - 1).toNat
 a1 : accB due = true
 a2 : accB rec = true
 sum : sumA due = sumA rec
 ok : (postAll n 0 (cloT due rec) b.po).2 = 0
 res : clsB b n due rec = ⟨b.ps.set (n - 1).toNat (shut x due), (postAll n 0 (cloT due rec) b.po).1, b.rs⟩
theorem cls_cases {b : Bk} (h : RB b) {n : Int} {due rec : List Share} (he : clsE b n due rec = 0) : ∃ x, ClsP b n due rec x := by
 have he0 := he
 unfold clsE at he
 by_cases h1 : n < 1 ∨ (b.ps.length : Int) < n
 · rw [if_pos h1] at he; cases he
 rw [if_neg h1] at he
 by_cases h2 : n ≠ firstC b.ps
 · rw [if_pos h2] at he; cases he
 rw [if_neg h2] at he
 by_cases h3 : accB due = false ∨ accB rec = false ∨ sumA due ≠ sumA rec
 · rw [if_pos h3] at he; cases he
 rw [if_neg h3] at he
 obtain ⟨x, hx⟩ := getElem_some (show (n - 1).toNat < b.ps.length by omega)
 have hf : n = firstN b.ps := (Decidable.not_not.1 h2).trans (first_eq h.pers)
 have hfi : fidx opB b.ps = some (n - 1).toNat := by
   unfold firstN at hf
   cases hfi : fidx opB b.ps with
   | none => rw [hfi] at hf; dsimp only at hf; omega
   | some i => rw [hfi] at hf; dsimp only at hf; congr 1; omega
 refine ⟨x, by omega, by omega, hx, hfi, ?_, ?_, ?_, he, ?_⟩
 · cases hh : accB due with
   | true => rfl
   | false => exact absurd (.inl hh) h3
 · cases hh : accB rec with
   | true => rfl
   | false => exact absurd (.inr (.inl hh)) h3
 · exact Decidable.not_not.1 fun hh => h3 (.inr (.inr hh))
 · unfold clsB
   rw [he0, if_neg (by decide), at_of hx]
theorem endOf_set {l : List Per} {i : Nat} {x y : Per} (hx : l[i]? = some x) (hy : y.to = x.to) (k : Nat) : endOf ((l.set i y).take k) = endOf (l.take k) := by
 unfold endOf
 rw [List.getLast?_eq_getElem?, List.getLast?_eq_getElem?]
 have hl : ((l.set i y).take k).length = (l.take k).length := by rw [List.length_take, List.length_take, List.length_set]
 rw [hl]
 by_cases hj : (l.take k).length - 1 < k
 · rw [List.getElem?_take_of_lt hj, List.getElem?_take_of_lt hj]
   by_cases e : i = (l.take k).length - 1
   · rw [← e, List.getElem?_set_self (List.getElem?_eq_some_iff.1 hx).1, hx]
     exact hy
   · rw [List.getElem?_set_ne e]
 · rw [List.getElem?_take_eq_none (by omega), List.getElem?_take_eq_none (by omega)]
theorem RB.close {b : Bk} (h : RB b) {n : Int} {due rec : List Share} {x : Per} (hc : ClsP b n due rec x) : RB (clsB b n due rec) := by
 rw [hc.res]
 have hx := hc.at'
 have hpx := h.per hx
 obtain ⟨x', hx', hop, hno⟩ := fidx_some hc.first
 rw [hx] at hx'; cases hx'
 generalize (n - 1).toNat = i at *
 have hil := (List.getElem?_eq_some_iff.1 hx).1
 refine ⟨?_, h.r2000, pers_iff.2 fun k y hy => ?_, postAll_led _ _ _ h.led hc.ok, cnt_iff.2 fun k y hy => ?_⟩
 · show (b.ps.set i _).length ≤ 64
   rw [List.length_set]; exact h.p64
 · replace hy : (b.ps.set i (shut x due))[k]? = some y := hy
   show PerP (b.ps.set i (shut x due)) k y
   have hend := endOf_set hx (y := shut x due) rfl k
   by_cases e : i = k
   · subst e
     rw [List.getElem?_set_self hil] at hy
     cases hy
     refine ⟨hpx.num, hpx.fr.trans hend.symm, hpx.lt, hpx.le, fun _ => ?_, fun hcl => (by cases hcl), hc.a1⟩
     rw [List.take_set_of_le (Nat.le_refl _)]
     exact any_no hno
   · rw [List.getElem?_set_ne e] at hy
     have hpy := h.per hy
     refine ⟨hpy.num, hpy.fr.trans hend.symm, hpy.lt, hpy.le, fun hcl => ?_, hpy.emp, hpy.acc⟩
     have h0 := hpy.ord hcl
     by_cases hik : i < k
     · exact absurd hop (List.any_eq_false.1 h0 x (List.mem_of_getElem? (i := i) (by rw [List.getElem?_take_of_lt hik]; exact hx)))
     · rw [List.take_set_of_le (by omega)]; exact h0
 · have hcy := h.cntp (k := k) (x := y) hy
   refine ⟨hcy.lo, ?_, hcy.ride, fun u hu => ?_, hcy.new⟩
   · show y.per ≤ ((b.ps.set i (shut x due)).length : Int)
     rw [List.length_set]; exact hcy.hi
   · replace hu : (b.ps.set i (shut x due))[(y.per - 1).toNat]? = some u := hu
     by_cases e : i = (y.per - 1).toNat
     · subst e
       rw [List.getElem?_set_self hil] at hu
       cases hu
       exact hcy.ends x hx
     · rw [List.getElem?_set_ne e] at hu
       exact hcy.ends u hu
def toA (l : List Pst) (v : Int) : Int := (l.map fun y => if y.to = v then y.am else 0).sum
def frA (l : List Pst) (v : Int) : Int := (l.map fun y => if y.fr = v then y.am else 0).sum
def amP (l : List Pst) : Prop := l.length ≤ 1000000 ∧ ∀ y ∈ l, 0 ≤ y.am ∧ y.am ≤ 1099511627776
theorem sumf_snoc {α : Type} (f : α → Int) {l : List α} {k : Nat} {x : α} (hx : l[k]? = some x) : ((l.take (k + 1)).map f).sum = ((l.take k).map f).sum + f x := by
 rw [take_snoc l k x hx, List.map_append, List.sum_append]
 simp
theorem sum_bndk {α : Type} (f : α → Int) {l : List α} {M : Int} (h : ∀ x ∈ l, 0 ≤ f x ∧ f x ≤ M) : ∀ k : Nat, k ≤ l.length → 0 ≤ ((l.take k).map f).sum ∧ ((l.take k).map f).sum ≤ M * (k : Int)
 | 0, _ => by simp
 | k + 1, hk => by
   obtain ⟨x, hx⟩ := getElem_some (show k < l.length by omega)
   have h1 := sum_bndk f h k (by omega)
   have h2 := h x (List.mem_of_getElem? hx)
   rw [sumf_snoc f hx]
   have e : M * ((k + 1 : Nat) : Int) = M * (k : Int) + M := by rw [Int.natCast_add, Int.mul_add]; simp
   omega
theorem toA_snoc {l : List Pst} {k : Nat} {x : Pst} (v : Int) (hx : l[k]? = some x) : toA (l.take (k + 1)) v = toA (l.take k) v + if x.to = v then x.am else 0 := sumf_snoc (fun y : Pst => if y.to = v then y.am else 0) hx
theorem frA_snoc {l : List Pst} {k : Nat} {x : Pst} (v : Int) (hx : l[k]? = some x) : frA (l.take (k + 1)) v = frA (l.take k) v + if x.fr = v then x.am else 0 := sumf_snoc (fun y : Pst => if y.fr = v then y.am else 0) hx
theorem toA_bnd {l : List Pst} (h : amP l) (v : Int) {k : Nat} (hk : k ≤ l.length) : 0 ≤ toA (l.take k) v ∧ toA (l.take k) v ≤ 1099511627776 * (k : Int) :=
 sum_bndk (fun y : Pst => if y.to = v then y.am else 0) (fun x hx => by have := h.2 x hx; split <;> omega) k hk
theorem frA_bnd {l : List Pst} (h : amP l) (v : Int) {k : Nat} (hk : k ≤ l.length) : 0 ≤ frA (l.take k) v ∧ frA (l.take k) v ≤ 1099511627776 * (k : Int) :=
 sum_bndk (fun y : Pst => if y.fr = v then y.am else 0) (fun x hx => by have := h.2 x hx; split <;> omega) k hk
def balA (l : List Pst) (v : Int) : Int := toA l v - frA l v
def refsF (n : Int) : Nat → List Tfer → List Pst
 | _, [] => []
 | i, t :: r => refP n i t :: refsF n (i + 1) r
theorem refsF_len (n : Int) : ∀ (T : List Tfer) (i : Nat), (refsF n i T).length = T.length
 | [], _ => rfl
 | _ :: r, i => congrArg (· + 1) (refsF_len n r (i + 1))
theorem refs_bal (n v : Int) : ∀ (T : List Tfer) (i : Nat), toA (refsF n i T) v - frA (refsF n i T) v = bal T v
 | [], _ => rfl
 | t :: r, i => by
   have := refs_bal n v r (i + 1)
   have h1 : toA (refsF n i (t :: r)) v = (if t.t = v then t.a else 0) + toA (refsF n (i + 1) r) v := by unfold toA; rw [refsF, List.map_cons, List.sum_cons]; rfl
   have h2 : frA (refsF n i (t :: r)) v = (if t.f = v then t.a else 0) + frA (refsF n (i + 1) r) v := by unfold frA; rw [refsF, List.map_cons, List.sum_cons]; rfl
   rw [h1, h2, bal]
   omega
theorem balA_app (a b : List Pst) (v : Int) : balA (a ++ b) v = balA a v + balA b v := by
 unfold balA toA frA
 rw [List.map_append, List.map_append, List.sum_append, List.sum_append]
 omega
theorem postAll_refs {n : Int} : ∀ (T : List Tfer) (i : Nat) (po : List Pst), (∀ y ∈ po, ∀ j : Nat, i ≤ j → j < i + T.length → y.ref ≠ n * 100 + j + 1) → (postAll n i T po).2 = 0 → (postAll n i T po).1 = po ++ refsF n i T
 | [], _, po, _, _ => (List.append_nil po).symm
 | t :: r, i, po, hn, h2 => by
   obtain ⟨q1, q2⟩ := postAll_cons h2
   have hnot : refP n i t ∉ po := fun hm => hn _ hm i (Nat.le_refl i) (by rw [List.length_cons]; omega) rfl
   have hadd : addF po (refP n i t) = po ++ [refP n i t] := if_neg hnot
   have q5 := (postF_led q1).2.2
   rw [hadd] at q5
   rw [q2] at h2 ⊢
   rw [q5] at h2 ⊢
   rw [postAll_refs r (i + 1) _ (fun y hy j h1 hj => ?_) h2, List.append_assoc]
   · rfl
   · rcases List.mem_append.1 hy with hy | hy
     · exact hn y hy j (by omega) (by rw [List.length_cons]; omega)
     · rw [List.mem_singleton.1 hy]
       show n * 100 + i + 1 ≠ n * 100 + j + 1
       omega
theorem led_ok {l : List Pst} (h : ledR l = 0) : ∀ y ∈ l, ledP y := by
 have hl := led_len h
 unfold ledR at h
 rw [if_neg (by omega)] at h
 intro y hy
 obtain ⟨k, hk⟩ := List.mem_iff_getElem?.1 hy
 have h0 := fe_all h k (List.getElem?_eq_some_iff.1 hk).1
 unfold ledE at h0
 rw [at_of hk] at h0
 by_cases hp : ledP y
 · exact hp
 · rw [if_pos hp] at h0; cases h0
theorem led_am {l : List Pst} (h : ledR l = 0) : amP l := ⟨by have := led_len h; omega, fun y hy => by have := (led_ok h y hy).2.2.2; omega⟩
def takenB (l : List Pst) (n : Int) : Bool := l.any fun y => decide (IntKind.wrap .i64 (n * 100) < y.ref) && decide (y.ref ≤ IntKind.wrap .i64 (IntKind.wrap .i64 (n * 100) + 8))
theorem taken_no {l : List Pst} {n : Int} (h : takenB l n = false) (h1 : 1 ≤ n) (h2 : n ≤ 1000) : ∀ y ∈ l, ∀ j : Nat, j < 8 → y.ref ≠ n * 100 + j + 1 := by
 intro y hy j hj e
 have h0 := List.any_eq_false.1 h y hy
 rw [wrap_small (by omega) (by omega), wrap_small (by omega) (by omega)] at h0
 exact h0 (by rw [Bool.and_eq_true]; exact ⟨decide_eq_true (by omega), decide_eq_true (by omega)⟩)
theorem least_7 {l : List Share} (h : RightP l) : leastF l ≤ 7 := by
 obtain ⟨_, h2, h3⟩ := least_bounds h
 have := (nzl_nz h).len
 by_cases e : (nzl l).length = 0
 · rw [h2 e]; omega
 · have := h3 e; omega
structure SetP (b : Bk) (n : Int) (due rec : List Share) (y : Bk) : Prop where
 right : RB y
 po : y.po = b.po ++ refsF n 0 (cloT due rec)
 len : y.po.length = b.po.length + leastF (posL due rec)
 bal : ∀ x ∈ posL due rec, balA y.po x.o - balA b.po x.o = x.a
theorem set_of {b : Bk} (h : RB b) {n : Int} {due rec : List Share} {x : Per} (hc : ClsP b n due rec x) (ht : takenB b.po n = false) : SetP b n due rec (clsB b n due rec) := by
 have hR := posL_right hc.a1 hc.a2 hc.sum
 have hN := netF_spec hR
 have h64 := h.p64
 have hlo := hc.lo
 have hhi := hc.hi
 have hT8 : (cloT due rec).length ≤ 7 := by show (netF _).length ≤ 7; rw [hN.len]; exact least_7 hR
 have hpo : (clsB b n due rec).po = b.po ++ refsF n 0 (cloT due rec) := by
   rw [hc.res]
   exact postAll_refs _ 0 _ (fun y hy j _ hj => taken_no ht hlo (by omega) y hy j (by omega)) hc.ok
 refine ⟨h.close hc, hpo, ?_, fun z hz => ?_⟩
 · rw [hpo, List.length_append, refsF_len]
   show _ + (netF _).length = _
   rw [hN.len]
 · have hb := refs_bal n z.o (cloT due rec) 0
   have hb2 : balA (refsF n 0 (cloT due rec)) z.o = bal (cloT due rec) z.o := hb
   rw [hpo, balA_app, hb2]
   show balA b.po z.o + bal (netF _) z.o - _ = _
   rw [hN.bal, posAt_one hR.inc z hz]
   omega
end Go.Proofs.YtjpdaapjnpdiiaaGreat.P
