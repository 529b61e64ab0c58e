/- A part of the proof. -/
import Derived.Test.YtjpdaapjnpdiiaaGreatTL
import Derived.Test.YtjpdaapjnpdiiaaGreatQRH
import Derived.Test.YtjpdaapjnpdiiaaGreatQRG
import Derived.Test.YtjpdaapjnpdiiaaGreatQR4
namespace Go.Proofs.YtjpdaapjnpdiiaaGreat
open Go.RowKit
def toP (x : Share) : P.Share := ⟨x.o, x.a⟩
abbrev shP (l : List Share) : List P.Share := l.map toP
theorem enc_shP (l : List Share) : (shP l).map P.encS = l.map encS := by unfold shP; rw [List.map_map]; rfl
theorem sum_shP (l : List Share) : P.sumA (shP l) = sumA l := by unfold P.sumA P.amt sumA shP; rw [List.map_map]; rfl
theorem posAt_shP : ∀ (l : List Share) (v : Int), P.posAt (shP l) v = amt l v
 | [], _ => rfl
 | x :: r, v => by
   have := posAt_shP r v
   show (if x.o = v then x.a else 0) + P.posAt (shP r) v = _
   rw [this]; unfold amt; rw [List.map_cons, List.sum_cons]
theorem mem_le : ∀ {l : List Share}, Pos l → ∀ x ∈ l, x.a ≤ sumA l
 | [], _, x, hx => by cases hx
 | y :: r, h, x, hx => by
   have hr : Pos r := fun z hz => h z (by simp [hz])
   have h1 := hr.sum
   have h2 := h y (by simp)
   have e : sumA (y :: r) = y.a + sumA r := by simp [sumA]
   rw [e]
   rcases List.mem_cons.1 hx with rfl | hx
   · omega
   · have := mem_le hr x hx; omega
theorem Fine.pos {l : List Share} (h : Fine l) : Pos l := fun x hx => by have := (h.op x hx).2; omega
theorem acc_shP {l : List Share} (h : Fine l) (hs : sumA l ≤ 137438953472) : P.accB (shP l) = true := by
 refine decide_eq_true (P.fe_zero fun k hk => ?_)
 unfold shP at hk; rw [List.length_map] at hk
 obtain ⟨x, hx⟩ := getElem_some hk
 have hx' : (shP l)[k]? = some (toP x) := by unfold shP; rw [List.getElem?_map, hx]; rfl
 have hm := List.mem_of_getElem? hx
 have h1 := h.op x hm
 have h2 := mem_le h.pos x hm
 unfold P.accE
 rw [P.at_of hx', if_neg (Decidable.not_not.2 (show P.accP (toP x) from ⟨h1.1, by show 0 ≤ x.a; omega, by show x.a ≤ 137438953472; omega⟩))]
 refine if_neg fun ⟨h0, hle⟩ => ?_
 obtain ⟨y, hy⟩ := getElem_some (show k - 1 < l.length by omega)
 have hy' : (shP l)[k - 1]? = some (toP y) := by unfold shP; rw [List.getElem?_map, hy]; rfl
 rw [P.at_of hy'] at hle
 have hle' : x.o ≤ y.o := hle
 have := fine_lt h hx hy h0
 omega
theorem led_snoc {po : List P.Pst} {p : P.Pst} (h : P.ledR po = 0) (hp : P.ledP p) (hne : p.fr ≠ p.to) (hr : ∀ y ∈ po, y.ref ≠ p.ref) (hl : po.length < 2000) : P.ledR (po ++ [p]) = 0 := by
 unfold P.ledR at h ⊢
 rw [if_neg (by omega)] at h
 rw [if_neg (by rw [List.length_append]; simp; omega)]
 refine P.fe_zero fun k hk => ?_
 rw [List.length_append] at hk
 by_cases hkp : k < po.length
 · have h0 := P.fe_all h k hkp
   obtain ⟨y, hy⟩ := getElem_some hkp
   have hy' : (po ++ [p])[k]? = some y := by rw [List.getElem?_append_left hkp]; exact hy
   unfold P.ledE at h0 ⊢
   rw [P.at_of hy] at h0
   rw [P.at_of hy', List.take_append_of_le_length (by omega)]
   exact h0
 · have hke : k = po.length := by simp at hk; omega
   subst hke
   have hy' : (po ++ [p])[po.length]? = some p := by rw [List.getElem?_append_right (Nat.le_refl _), Nat.sub_self]; rfl
   unfold P.ledE
   rw [P.at_of hy', if_neg (Decidable.not_not.2 hp), if_neg hne, List.take_left]
   refine if_neg fun hq => ?_
   rw [List.any_eq_true] at hq
   obtain ⟨y, hy, he⟩ := hq
   exact hr y hy (of_decide_eq_true he)
theorem post_ok : ∀ (T : List P.Tfer) (i : Nat) (po : List P.Pst), P.ledR po = 0 → (∀ x ∈ T, P.okT x) → i + T.length ≤ 50 → po.length ≤ i → (∀ y ∈ po, y.ref ≤ 100 + i) → (P.postAll 1 i T po).2 = 0
 | [], _, _, _, _, _, _, _ => rfl
 | x :: r, i, po, h, hT, hi, hl, hr => by
   rw [List.length_cons] at hi
   obtain ⟨t1, t2, t3, t4, t5⟩ := hT x (by simp)
   have hrf : (P.refP 1 i x).ref = 101 + i := by show (1 : Int) * 100 + i + 1 = _; omega
   have hnot : ∀ y ∈ po, y.ref ≠ (P.refP 1 i x).ref := fun y hy e => by have := hr y hy; omega
   have hadd : P.addF po (P.refP 1 i x) = po ++ [P.refP 1 i x] := if_neg fun hm => hnot _ hm rfl
   unfold P.okO at t1 t2
   have hled := led_snoc h (p := P.refP 1 i x) ⟨by omega, ⟨by show 0 ≤ x.f; omega, by show x.f ≤ 9999; omega⟩, ⟨by show 0 ≤ x.t; omega, by show x.t ≤ 9999; omega⟩, by show 1 ≤ x.a; omega, by show x.a ≤ 1099511627776; omega⟩ t3 hnot (by omega)
   have hpf : P.postF po (P.refP 1 i x) = (po ++ [P.refP 1 i x], 0) := by unfold P.postF; rw [if_neg (Decidable.not_not.2 h), hadd, if_neg (Decidable.not_not.2 hled)]
   rw [P.postAll_go (by rw [hpf]), hpf]
   refine post_ok r (i + 1) _ hled (fun y hy => hT y (by simp [hy])) (by omega) (by rw [List.length_append]; simp; omega) fun y hy => ?_
   rcases List.mem_append.1 hy with hy | hy
   · have := hr y hy; omega
   · rw [List.mem_singleton.1 hy, hrf]; omega
def bkA : P.Bk := ⟨[⟨1, 0, 1000, false, []⟩], [], []⟩
theorem bkA_beg : P.beginB P.bk0 1000 = bkA ∧ P.beginE P.bk0 1000 = 0 := by decide +kernel
theorem bkA_rb : P.RB bkA := P.rb_of (by decide +kernel)
theorem bkA_first : P.firstC bkA.ps = 1 := by decide +kernel
theorem close_ok {due got : List Share} (h1 : Fine due) (h2 : Fine got) (s1 : sumA due ≤ 137438953472) (hs : sumA due = sumA got) : P.clsE bkA 1 (shP due) (shP got) = 0 := by
 have a1 := acc_shP h1 s1
 have a2 := acc_shP h2 (by omega)
 have e : P.sumA (shP due) = P.sumA (shP got) := by rw [sum_shP, sum_shP, hs]
 have hN := P.netF_spec (P.posL_right a1 a2 e)
 unfold P.clsE
 rw [if_neg (by decide), bkA_first, if_neg (by decide), if_neg (by rw [a1, a2, e]; simp)]
 exact post_ok _ 0 _ (by decide +kernel) hN.ok (by have := P.cloT_len a1 a2 e; omega) (Nat.le_refl _) fun y hy => by cases hy
theorem posL_at {due rec : List P.Share} (hd : P.accB due = true) (hr : P.accB rec = true) (hs : P.sumA due = P.sumA rec) {v : Int} (hv : P.okO v) : P.posAt (P.posL due rec) v = P.posAt due v - P.posAt rec v := by
 by_cases hm : v ∈ P.posK due rec
 · have h1 : (⟨v, P.posF due rec v⟩ : P.Share) ∈ P.posL due rec := List.mem_map.2 ⟨v, hm, rfl⟩
   exact P.posAt_one (P.posL_right hd hr hs).inc _ h1
 · have hno : ¬ (P.hasO due v = true ∨ P.hasO rec v = true) := fun h => hm (by
     unfold P.posK
     rw [List.mem_filter]
     exact ⟨P.mem_ops.2 hv, by rw [Bool.or_eq_true]; exact h⟩)
   have n1 : P.hasO due v = false := by cases h : P.hasO due v with
     | false => rfl
     | true => exact absurd (.inl h) hno
   have n2 : P.hasO rec v = false := by cases h : P.hasO rec v with
     | false => rfl
     | true => exact absurd (.inr h) hno
   have n3 : P.hasO (P.posL due rec) v = false := by
     cases h : P.hasO (P.posL due rec) v with
     | false => rfl
     | true =>
       obtain ⟨x, hx, e⟩ := P.hasO_mem.1 h
       obtain ⟨n, hn, rfl⟩ := List.mem_map.1 hx
       exact absurd (e ▸ hn) hm
   rw [P.posAt_zero' n1, P.posAt_zero' n2, P.posAt_zero' n3]; rfl
structure Done (due got : List Share) (b : P.Bk) : Prop where
 right : P.rightB b = 0
 sm : P.smB b
 am : P.amP b.po
 bal : ∀ v, P.okO v → amt got v + P.balA b.po v = amt due v
theorem settled {due got : List Share} (h1 : Fine due) (h2 : Fine got) (s1 : sumA due ≤ 137438953472) (hs : sumA due = sumA got) : Done due got (P.clsB bkA 1 (shP due) (shP got)) := by
 have a1 := acc_shP h1 s1
 have a2 := acc_shP h2 (by omega)
 have e : P.sumA (shP due) = P.sumA (shP got) := by rw [sum_shP, sum_shP, hs]
 have hN := P.netF_spec (P.posL_right a1 a2 e)
 obtain ⟨x, hc⟩ := P.cls_cases bkA_rb (close_ok h1 h2 s1 hs)
 have hS := P.set_of bkA_rb hc (by decide +kernel)
 refine ⟨hS.right.right, hS.right.sm, P.led_am hS.right.led, fun v hv => ?_⟩
 have hb := P.refs_bal 1 v (P.cloT (shP due) (shP got)) 0
 have hb2 : P.balA (P.refsF 1 0 (P.cloT (shP due) (shP got))) v = P.bal (P.cloT (shP due) (shP got)) v := hb
 have hp : P.balA (P.clsB bkA 1 (shP due) (shP got)).po v = P.bal (P.cloT (shP due) (shP got)) v := by
   rw [hS.po]; exact hb2
 have hn := hN.bal v
 rw [posL_at a1 a2 e hv, posAt_shP, posAt_shP] at hn
 have hp2 : P.balA (P.clsB bkA 1 (shP due) (shP got)).po v = amt due v - amt got v := hp.trans hn
 omega
def paysL (sales : List Sale) : List Share := sales.map fun s => ⟨s.seller, s.paid⟩
theorem pays_good : ∀ {sales : List Sale}, (∀ x ∈ sales, SaP x) → AllG (paysL sales) (paidL sales) sales.length
 | [], _ => ⟨fun _ h => (by cases h), rfl, fun _ h => (by cases h), Nat.zero_le _⟩
 | x :: r, h => by
   have ih := pays_good (sales := r) fun y hy => h y (by simp [hy])
   have hx := h x (by simp)
   have h1 := hx.fee
   have e : paysL (x :: r) = [⟨x.seller, x.paid⟩] ++ paysL r := rfl
   rw [e]
   refine ⟨Pos.app (fun y hy => by rw [List.mem_singleton.1 hy]; show 0 ≤ x.paid; omega) ih.pos, ?_, fun y hy => ?_, ?_⟩
   · rw [sumA_app, ih.sum]; simp [paidL, sumA]
   · rcases List.mem_append.1 hy with hy | hy
     · rw [List.mem_singleton.1 hy]; exact hx.sel
     · exact ih.op y hy
   · have := ih.len
     simp only [List.length_append, List.length_cons, List.length_nil]; omega
theorem pays_snoc {sales : List Sale} {k : Nat} {x : Sale} (h : sales[k]? = some x) : paysL (sales.take (k + 1)) = paysL (sales.take k) ++ [⟨x.seller, x.paid⟩] := by unfold paysL; rw [take_snoc _ _ _ h, List.map_append]; rfl
theorem paid_snoc {sales : List Sale} {k : Nat} {x : Sale} (h : sales[k]? = some x) : paidL (sales.take (k + 1)) = paidL (sales.take k) + x.paid := by unfold paidL; rw [take_snoc _ _ _ h, List.map_append, List.sum_append]; simp
theorem run_pos : ∀ (l : List Share) (s : Int), Pos l → 0 ≤ s → s + sumA l ≤ 1099511627776 → runO s (l.map fun x : Share => x.a) = some (s + sumA l)
 | [], s, _, _, _ => by simp [runO, sumA]
 | x :: r, s, h, h0, hs => by
   have hr : Pos r := fun z hz => h z (by simp [hz])
   have h1 := hr.sum
   have h2 := h x (by simp)
   have e : sumA (x :: r) = x.a + sumA r := by simp [sumA]
   rw [e] at hs ⊢
   rw [List.map_cons, runO]
   have hp : plusF s x.a = some (s + x.a) := by unfold plusF; rw [if_neg (by omega)]
   rw [hp]
   show runO (s + x.a) _ = _
   rw [run_pos r (s + x.a) hr (by omega) (by omega), Int.add_assoc]
theorem tot_pos {l : List Share} (h : Pos l) (hs : sumA l ≤ 1099511627776) : totT (runO 0 (l.map fun x : Share => x.a)) = .tup [I (sumA l), I 0] := by
 rw [run_pos l 0 h (Int.le_refl _) (by omega), Int.zero_add]; rfl
theorem amt_snoc2 {l : List Share} {k : Nat} {x : Share} (o : Int) (h : l[k]? = some x) : amt (l.take (k + 1)) o = amt (l.take k) o + if x.o = o then x.a else 0 := by
 rw [take_snoc _ _ _ h, amt_app]; unfold amt; simp
theorem pos_take {l : List Share} (h : Pos l) (k : Nat) : Pos (l.take k) := fun x hx => h x (List.mem_of_mem_take hx)
theorem sum_take_le {l : List Share} (h : Pos l) (k : Nat) : sumA (l.take k) ≤ sumA l := by
 have e := congrArg sumA (List.take_append_drop k l)
 rw [sumA_app] at e
 have : Pos (l.drop k) := fun x hx => h x (List.mem_of_mem_drop hx)
 have := this.sum
 omega
def bkB : P.Bk := ⟨[⟨1, 0, 100, false, []⟩], [], []⟩
def bkC : P.Bk := ⟨[⟨1, 0, 100, true, [⟨1, 7⟩]⟩], [⟨101, 2, 1, 7⟩], []⟩
theorem bkB_beg : P.beginB P.bk0 100 = bkB ∧ P.beginE P.bk0 100 = 0 := by decide +kernel
theorem bkC_t : P.cloT [⟨1, 7⟩] [⟨2, 7⟩] = [⟨2, 1, 7⟩] := by
 have h : P.netO (P.nzl (P.posL [⟨1, 7⟩] [⟨2, 7⟩])) = [⟨2, 1, 7⟩] := by decide +kernel
 unfold P.cloT P.netF
 rw [h, List.mergeSort_singleton]
theorem bkC_cls : P.clsX bkB 1 [⟨1, 7⟩] [⟨2, 7⟩] = .tup [P.aB bkC, I 0] := by
 have hp : P.postAll 1 0 [⟨2, 1, 7⟩] bkB.po = ([⟨101, 2, 1, 7⟩], 0) := by decide +kernel
 have h1 : P.clsE bkB 1 [⟨1, 7⟩] [⟨2, 7⟩] = 0 := by
   unfold P.clsE
   rw [bkC_t, hp]
   decide +kernel
 have h2 : P.clsB bkB 1 [⟨1, 7⟩] [⟨2, 7⟩] = bkC := by
   unfold P.clsB
   rw [h1, bkC_t, hp]
   decide +kernel
 unfold P.clsX; rw [h1, h2]
theorem spl_of {a : Int} {ws R P : List Int} (hc : chkF a ws = 0) (hs : R.Perm (idxL ws.length) ∧ R.Pairwise (bef (keyR (rL a ws)))) (hP : incs (qL a ws) (R.take (leftN a ws)) = P) : splT a ws = .tup [L 1 (P.map e1), I 0] := by
 have h1 := ordL_sorted (rL a ws)
 rw [rL_len] at h1
 unfold splT
 rw [if_pos hc, hc, partsL, sorted_uniq h1 hs, hP]
theorem ev_spl : splT 100 [2, 1] = .tup [L 1 ([67, 33].map e1), I 0] := spl_of (R := [0, 1]) (by decide +kernel) (by decide +kernel) (by decide +kernel)
end Go.Proofs.YtjpdaapjnpdiiaaGreat
