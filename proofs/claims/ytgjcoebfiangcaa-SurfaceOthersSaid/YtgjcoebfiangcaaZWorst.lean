/- surface.Worst. -/
import Derived.Test.YtgjcoebfiangcaaZDel
import Derived.Test.YtgjcoebfiangcaaZSort
import Derived.Test.YtgjcoebfiangcaaShelf
namespace Go.Proofs.Ytgjcoebfiangcaa.Old
open Go.RowKit Go.Shelf

theorem infoI : (Try.prog.info? 3).map (fun i => (i.zero, i.size, i.bytes)) = some (some (.int .i64 0), 1, 8) := by kernel_rfl
theorem encI_one (n : Int) : ∀ u ∈ encI n, u.oneCell' = true := by
  intro u hu; simp [encI] at hu; subst hu; rfl
instance : Inhabited {x // okS x} := ⟨⟨⟨1, 0, 0⟩, by decide⟩⟩
theorem swoQ (t : Int) : Go.Sort.SWO (ltOf fun x y : {x // okS x} => cmpQ t x.1 y.1) := {
  irrefl := fun x => by simp only [ltOf, decide_eq_false_iff_not, cmpQ_lt]; omega
  trans := fun x y z h1 h2 => by simp only [ltOf, decide_eq_true_eq, cmpQ_lt] at *; omega
  ntrans := fun x y z h1 h2 => by simp only [ltOf, decide_eq_false_iff_not, cmpQ_lt] at *; omega }
theorem enterW2 : ∀ args w, (callFunc 31 args).run Try.prog w = .ok (.enter 31 args) w := enters_of Try.func31 (by kernel_rfl) rfl

theorem sortS_any (xs : List Surf) (v : Value) (t : Int) (B base : Nat) (w : World) (ho : Own encS 3 32 base w v xs) (hok : ∀ x ∈ xs, okS x) (ht : t ≤ 9223372036854775807) (hl : xs.length ≤ 1000) (hbase : base ≤ w.heap.size) (hB : B < base) (hcB : w.cell? ⟨B, 0, none⟩ = some (.int .i64 t)) :
    Calls Try.prog 30 #[v, .func (.func 31) #[] #[.pointer (some ⟨B, 0, none⟩)]] w fun e' w' => e' = .returned (.tuple #[]) ∧ ∃ ys, Own encS 3 32 base w' v ys ∧ ys.Perm xs ∧ ys.Pairwise (fun a b => ¬ cmpQ t b a < 0) ∧ Below base w w' :=
  sort_own Try.sortS (ok := okS) (enc := encS) (k := 3) (fun _ => by kernel_rfl) (fun _ => by kernel_rfl) encS_len (fun x u hu => by simp [encS] at hu; rcases hu with rfl | rfl | rfl <;> rfl) (cmpQ t) (swoQ t) 31 #[.pointer (some ⟨B, 0, none⟩)] enterW2 ho hok (by omega)
    (fun W x y hx hy hc hs => worst2_any x y t B W hx hy ht (by omega) ((hc B 0 hB).trans hcB))

/-- What Worst gives: the runs of a sorted permutation of those of less quality. -/
def WorstPost (xs : List Surf) (t least : Int) (w : World) (e : Ending) (w' : World) : Prop :=
  ∃ (v' : Value) (ys : List Surf), e = .returned v' ∧ Row encI 1 w' v' (ys.map (·.run)) ∧ ys.Perm (xs.filter fun x => !decide (least ≤ quality x t)) ∧ ys.Pairwise (fun a b => 0 ≤ cmpQ t b a) ∧ Below w.heap.size w w'

set_option maxHeartbeats 1000000 in
theorem worst_any (xs : List Surf) (v : Value) (t least : Int) (w : World) (hv : Row encS 3 w v xs) (hl : xs.length ≤ 1000) (hok : ∀ x ∈ xs, okS x) (ht : t ≤ 9223372036854775807) :
    Calls Try.prog 22 #[v, .int .i64 t, .int .i64 least] w (WorstPost xs t least w) := by
  obtain ⟨i0, hi, hz0, hz1, hz2⟩ := info_parts infoI
  have HV := Lib.hid hv; have HK := Lib.hid hok; clear hv hok
  have b1 : Below w.heap.size w ((w.alloc (.cells #[.int .i64 t] 3)).alloc (.cells #[.int .i64 least] 3)) := ((Below.refl _ w).alloc (Nat.le_refl _) _).alloc (by simp) _
  go_enter Try.func22, Try.ntmps22
  go_wp2_with fail
  refine (clone_any xs _ _ (HV.out.below b1) hl).mono ?_
  rintro e w1 ⟨v1, rfl, ho1, hb1⟩
  have hz1' := hb1.size
  have cB : w1.cell? ⟨w.heap.size, 0, none⟩ = some (.int .i64 t) := (hb1.cell (p := ⟨w.heap.size, 0, none⟩) (by simp; omega)).trans (by simp)
  have cC : w1.cell? ⟨w.heap.size + 1, 0, none⟩ = some (.int .i64 least) := (hb1.cell (p := ⟨w.heap.size + 1, 0, none⟩) (by simp)).trans (by simp)
  have ho1' : Own encS 3 32 (w.heap.size + 1 + 1) w1 v1 xs := by simpa using ho1
  have hs1 : w.heap.size + 1 + 1 ≤ w1.heap.size := by simpa using hz1'
  have HB := Lib.hid cB; have HC := Lib.hid cC; have HO := Lib.hid ho1'; have H1 := Lib.hid hb1
  clear cB cC ho1 hb1 ho1' hz1'
  go_wp2_with fail
  refine (deleteFunc_any xs v1 t least w.heap.size (w.heap.size + 1) (w.heap.size + 1 + 1) w1 HO.out HK.out ht hs1 (by omega) (by omega) HB.out HC.out).mono ?_
  rintro e w2 ⟨v2, rfl, ho2, hb2⟩
  have hfo : ∀ x ∈ xs.filter (fun x => !decide (least ≤ quality x t)), okS x := fun x hx => HK.out x (List.mem_filter.1 hx).1
  have hfl : (xs.filter (fun x => !decide (least ≤ quality x t))).length ≤ 1000 := Nat.le_trans (List.length_filter_le _ _) hl
  have HFO := Lib.hid hfo; have HFL := Lib.hid hfl
  have hs2 : w.heap.size + 1 + 1 ≤ w2.heap.size := Nat.le_trans hs1 hb2.size
  have cB2 : w2.cell? ⟨w.heap.size, 0, none⟩ = some (.int .i64 t) := (hb2.cell (p := ⟨w.heap.size, 0, none⟩) (by show w.heap.size < _; omega)).trans HB.out
  have HO2 := Lib.hid ho2; have HB2 := Lib.hid cB2; have H2 := Lib.hid hb2
  clear HO HB HC ho2 cB2 hb2 hfo hfl
  generalize hfs : (xs.filter fun x => !decide (least ≤ quality x t)) = fs at *
  have HFS := Lib.hid hfs; clear hfs
  go_wp2_with fail
  refine (sortS_any fs v2 t w.heap.size (w.heap.size + 1 + 1) w2 HO2.out HFO.out ht HFL.out hs2 (by omega) HB2.out).mono ?_
  rintro e w3 ⟨rfl, ys, ho3, hp3, hw3, hb3⟩
  have hs3 : w.heap.size + 1 + 1 ≤ w3.heap.size := Nat.le_trans hs2 hb3.size
  have hb0 : Below w.heap.size w w3 := b1.trans (((H1.out.mono (by simp; omega)).trans (H2.out.mono (by omega))).trans (hb3.mono (by omega)))
  obtain ⟨A, c, rfl, hc1, hc2, hcells⟩ := ho3.row encS_len
  have hyl : ys.length ≤ 1000 := by rw [hp3.length_eq]; exact HFL.out
  have H := Lib.hid hcells; have HP := Lib.hid hp3; have HW := Lib.hid hw3
  clear hcells ho3 hp3 hw3 HO2 HB2 H1 H2 HFO HFL b1 hb3
  go_wp2
  go_loopw [8, 20] (fun u n wr => ∃ k : Nat, k ≤ ys.length ∧ n = .int .i64 k ∧ Own encI 1 3 w3.heap.size wr u ((ys.map (·.run)).take k) ∧ Below w3.heap.size w3 wr) (fun _ n _ => ys.length - (intOf n).toNat)
  case atStart => exact ⟨0, Nat.zero_le _, rfl, World.ownsRow_nil _ _ _ _, Below.refl _ _⟩
  case round =>
    obtain ⟨k, hk, rfl, ho, hb⟩ := hrel
    by_cases hlt : k < ys.length
    · obtain ⟨b, off, rfl, hbl, hcl⟩ := H.out (by omega)
      have hx : ys[k]? = some ys[k] := List.getElem?_eq_getElem hlt
      have hc := hcl k _ hx
      have c0 := (hb.cell (p := ⟨b, _, none⟩) hbl).trans (hc 0 _ rfl)
      rw [Nat.add_zero] at c0
      have d1 := (hb.cell (p := ⟨b, _, none⟩) hbl).trans (hc 1 _ rfl)
      have d2 := (hb.cell (p := ⟨b, _, none⟩) hbl).trans (hc 2 _ rfl)
      have hz := hb.size
      have HO := Lib.hid ho
      have HX := Lib.hid (take_snoc (ys.map (·.run)) k ys[k].run (by simp [hx]))
      clear hcl hc hx ho
      generalize ys[k] = x at *
      go_wp2_with (at_builtin; refine wpList_append_any _ rfl (.tmp 24) (.tmp 27) 36 rfl w3.heap.size 3 i0 _ 1 8 Try.underlying36 hi hz0 hz1 hz2 rfl (by decide) _ _ _ rfl ((HO.out.alloc _).alloc _) _ _ 1 1 _ rfl (reads_new_at (wr.alloc (.cells #[.int .i64 x.run, .int .i64 x.groomed, .int .i64 x.traffic] 32)) [.int .i64 x.run] 3 1 _ rfl (by simp)) (by simp [Value.oneCell']) (by unfold maxLen; simp; omega) (by simp; omega) (by simp; omega) ?_; intro v' w4 hown' hgrow _)
      exact ⟨⟨k + 1, by omega, by go_num, by rw [HX.out]; exact Own.snoc hown' rfl, ((hb.alloc hz _).alloc (by simp; omega) _).grown hgrow (by simp; omega) HO.out.lt⟩, by simp [intOf]; omega⟩
    · go_wp2
      go_ret
      exact ⟨_, ys, rfl, by have := ho.row encI_len; rwa [List.take_of_length_le (by simp; omega)] at this, by rw [HFS.out]; exact HP.out, HW.out, Below.step hb0 hb⟩
end Go.Proofs.Ytgjcoebfiangcaa.Old
