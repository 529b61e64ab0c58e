/- slices.DeleteFunc with the closure of Worst. -/
import Derived.Test.YtgjcoebfiangcaaZWc
namespace Go.Proofs.Ytgjcoebfiangcaa.Old
open Go.RowKit

set_option maxHeartbeats 400000 in
theorem indexDel_any (xs : List Surf) (v : Value) (t least : Int) (B C : Nat) (w : World) (hv : Row encS 3 w v xs) (hok : ∀ x ∈ xs, okS x) (ht : t ≤ 9223372036854775807) (hB : B < w.heap.size) (hC : C < w.heap.size) (hcB : w.cell? ⟨B, 0, none⟩ = some (.int .i64 t)) (hcC : w.cell? ⟨C, 0, none⟩ = some (.int .i64 least)) :
    Calls Try.prog 34 #[v, .func (.func 29) #[] #[.pointer (some ⟨B, 0, none⟩), .pointer (some ⟨C, 0, none⟩)]] w fun e w' => e = .returned (.int .i64 (idxP (fun x => decide (least ≤ quality x t)) 0 xs)) ∧ Below w.heap.size w w' := by
  obtain ⟨A, c, rfl, hc1, hc2, hcells⟩ := hv
  have H := Lib.hid hcells; clear hcells
  have HB := Lib.hid hcB; have HC := Lib.hid hcC; have HK := Lib.hid hok; clear hcB hcC hok
  go_enter Try.func34, Try.ntmps34
  go_wp2
  go_loopw [8] (fun i wr => ∃ k : Nat, k ≤ xs.length ∧ i = .int .i64 k ∧ Hid (idxP (fun x => decide (least ≤ quality x t)) 0 xs = idxP (fun x => decide (least ≤ quality x t)) k (xs.drop k)) ∧ Below w.heap.size w wr) (fun i _ => xs.length - (intOf i).toNat)
  case atStart => exact ⟨0, Nat.zero_le _, rfl, Lib.hid (by simp), Below.refl _ _⟩
  case round =>
    obtain ⟨k, hk, rfl, hr, hb⟩ := hrel
    by_cases hlt : k < xs.length
    · obtain ⟨b, off, rfl, hbl, hcl⟩ := H.out (by omega)
      have hx : xs[k]? = some xs[k] := List.getElem?_eq_getElem hlt
      have hc := hcl k _ hx
      have c0 := (hb.cell (p := ⟨b, _, none⟩) hbl).trans (hc 0 _ rfl)
      rw [Nat.add_zero] at c0
      have c1 := (hb.cell (p := ⟨b, _, none⟩) hbl).trans (hc 1 _ rfl)
      have c2 := (hb.cell (p := ⟨b, _, none⟩) hbl).trans (hc 2 _ rfl)
      have cB := Lib.hid ((hb.cell (p := ⟨B, _, none⟩) hB).trans HB.out)
      have cC := Lib.hid ((hb.cell (p := ⟨C, _, none⟩) hC).trans HC.out)
      have hz := hb.size
      have HX := Lib.hid (idxP_step (p := fun x => decide (least ≤ quality x t)) hx)
      have HO := Lib.hid (HK.out _ (List.getElem_mem hlt))
      clear hcl hc hx H
      generalize xs[k] = x at *
      have hcon := Lib.hid (worst1_any x t least B C wr HO.out ht (by omega) (by omega) cB.out cC.out)
      generalize hq : decide (least ≤ quality x t) = q at *
      clear hq
      cases q with
      | true =>
        go_wp2_with (go_at_call 29; refine hcon.out.mono ?_; rintro e w' ⟨rfl, hb'⟩)
        go_ret
        exact ⟨ret_int (by rw [hr.out, HX.out]; simp), Below.step hb hb'⟩
      | false =>
        go_wp2_with (go_at_call 29; refine hcon.out.mono ?_; rintro e w' ⟨rfl, hb'⟩)
        exact ⟨⟨k + 1, by omega, by go_num, Lib.hid (by rw [hr.out, HX.out]; simp), Below.step hb hb'⟩, by simp [intOf]; omega⟩
    · go_wp2
      go_ret
      exact ⟨ret_int (by rw [hr.out, drop_end hlt]; rfl), hb⟩

theorem zeroS_one (m : Nat) : ∀ u ∈ (Builtin.zeroCells (Value.agg #[.int .i64 0, .int .i64 0, .int .i64 0]).cells m).toList, u.oneCell' = true := by
  intro u hu
  simp only [Builtin.zeroCells, Array.toList_map, List.mem_map] at hu
  obtain ⟨i, _, rfl⟩ := hu
  have h : i % 3 = 0 ∨ i % 3 = 1 ∨ i % 3 = 2 := by omega
  simp only [Value.cells]
  rcases h with h | h | h <;> simp [h, Value.oneCell']

theorem stored3 {base g n cap : Nat} {w : World} {L : List Surf} (h : Own encS 3 32 base w (.slice (some ⟨g, 0, none⟩) n cap) L) {i : Nat} {z : Surf} (hz : L[i]? = some z) (x : Surf) :
    Own encS 3 32 base (((w.setCell ⟨g, i * 3, none⟩ (.int .i64 x.run)).setCell ⟨g, i * 3 + 1, none⟩ (.int .i64 x.groomed)).setCell ⟨g, i * 3 + 2, none⟩ (.int .i64 x.traffic)) (.slice (some ⟨g, 0, none⟩) n cap) (L.set i x) := by
  have hl := (List.getElem?_eq_some_iff.1 hz).1
  have o1 := h.stored encS_len hz (j := 0) (y := ⟨x.run, z.groomed, z.traffic⟩) (u := .int .i64 x.run) (by omega) rfl
  have o2 := o1.stored encS_len (i := i) (j := 1) (x := ⟨x.run, z.groomed, z.traffic⟩) (y := ⟨x.run, x.groomed, z.traffic⟩) (u := .int .i64 x.groomed) (by simp [hl]) (by omega) rfl
  have o3 := o2.stored encS_len (i := i) (j := 2) (x := ⟨x.run, x.groomed, z.traffic⟩) (y := x) (u := .int .i64 x.traffic) (by simp [hl]) (by omega) rfl
  rw [List.set_set, List.set_set] at o3
  exact o3

set_option maxHeartbeats 1000000 in
theorem deleteFunc_any (xs : List Surf) (v : Value) (t least : Int) (B C base : Nat) (w : World) (ho : Own encS 3 32 base w v xs) (hok : ∀ x ∈ xs, okS x) (ht : t ≤ 9223372036854775807) (hbase : base ≤ w.heap.size) (hB : B < base) (hC : C < base) (hcB : w.cell? ⟨B, 0, none⟩ = some (.int .i64 t)) (hcC : w.cell? ⟨C, 0, none⟩ = some (.int .i64 least)) :
    Calls Try.prog 28 #[v, .func (.func 29) #[] #[.pointer (some ⟨B, 0, none⟩), .pointer (some ⟨C, 0, none⟩)]] w fun e w' => ∃ v', e = .returned v' ∧ Own encS 3 32 base w' v' (xs.filter (fun x => !decide (least ≤ quality x t))) ∧ Below base w w' := by
  have hcon := indexDel_any xs v t least B C w (ho.row encS_len) hok ht (by omega) (by omega) hcB hcC
  rcases idxP_spec (fun x => decide (least ≤ quality x t)) xs with ⟨h, hf⟩ | ⟨k0, h, hk0, hf⟩
  · rw [h] at hcon
    have HF := Lib.hid hf; have HI := Lib.hid hcon; have HO := Lib.hid ho
    clear hf hcon ho hok hcB hcC h
    go_enter Try.func28, Try.ntmps28
    go_wp2_with (go_at_call 34; refine HI.out.mono ?_; rintro e w' ⟨rfl, hb'⟩)
    go_ret
    exact ⟨_, rfl, by rw [HF.out]; exact HO.out.below hb', hb'.mono hbase⟩
  · rw [h] at hcon
    obtain ⟨g, cap, rfl, hg1, hg2, hg3, hg4⟩ := ho.form (by omega)
    have HF := Lib.hid hf; have HI := Lib.hid hcon; have HO := Lib.hid ho; have HB := Lib.hid hcB; have HC := Lib.hid hcC; have HK := Lib.hid hok
    have hne1 : ((k0 : Int) == -1) = false := beq_eq_false_iff_ne.2 (by omega)
    clear hf hcon ho hok hcB hcC h
    go_enter Try.func28, Try.ntmps28
    go_wp2_with (go_at_call 34; refine HI.out.mono ?_; rintro e w1 ⟨rfl, hb1⟩)
    go_loopw [5, 6] (fun s5 s6 wr => ∃ (i j : Nat) (L : List Surf), s5 = .int .i64 i ∧ s6 = .int .i64 j ∧ j ≤ xs.length ∧ i < j ∧ Hid (KeptInv (fun x => decide (least ≤ quality x t)) xs i j L) ∧ Own encS 3 32 base wr (.slice (some ⟨g, 0, none⟩) xs.length cap) L ∧ Below base w wr) (fun _ s6 _ => xs.length - (intOf s6).toNat)
    case atStart => exact ⟨k0, k0 + 1, xs, rfl, by go_num, by omega, by omega, Lib.hid HF.out, HO.out.below hb1, hb1.mono hbase⟩
    case round =>
      obtain ⟨i, j, L, rfl, rfl, hj, hij, hi, hw, hb⟩ := hrel
      have HW := Lib.hid hw; clear hw
      have hz : w.heap.size ≤ wr.heap.size := hb.size
      by_cases hlt : j < xs.length
      · have hx : xs[j]? = some xs[j] := List.getElem?_eq_getElem hlt
        have hxo := HK.out _ (List.getElem_mem hlt)
        generalize xs[j] = x at hx hxo
        have hLj : L[j]? = some x := hi.out.at_.trans hx
        have hLl := hi.out.len
        have hLi : L[i]? = some L[i] := List.getElem?_eq_getElem (by omega)
        generalize L[i] = z at hLi
        have c0 := HW.out.cellAt encS_len hLj (j := 0) rfl
        have c1 := HW.out.cellAt encS_len hLj (j := 1) rfl
        have c2 := HW.out.cellAt encS_len hLj (j := 2) rfl
        rw [Nat.add_zero] at c0
        have cB : (wr.alloc (.cells #[.int .i64 x.run, .int .i64 x.groomed, .int .i64 x.traffic] 32)).cell? ⟨B, 0, none⟩ = some (.int .i64 t) := (World.cell?_alloc_lt wr _ ⟨B, 0, none⟩ (by show B < _; omega)).trans ((hb.cell (p := ⟨B, 0, none⟩) hB).trans HB.out)
        have cC : (wr.alloc (.cells #[.int .i64 x.run, .int .i64 x.groomed, .int .i64 x.traffic] 32)).cell? ⟨C, 0, none⟩ = some (.int .i64 least) := (World.cell?_alloc_lt wr _ ⟨C, 0, none⟩ (by show C < _; omega)).trans ((hb.cell (p := ⟨C, 0, none⟩) hC).trans HC.out)
        have hcon := Lib.hid (worst1_any x t least B C (wr.alloc (.cells #[.int .i64 x.run, .int .i64 x.groomed, .int .i64 x.traffic] 32)) hxo ht (by simp; omega) (by simp; omega) cB cC)
        have HX := Lib.hid hx; have HLi := Lib.hid hLi
        clear cB cC hx hxo hLj hLi hLl
        have hgw : g < wr.heap.size := by omega
        generalize hq : decide (least ≤ quality x t) = q at *
        have HQ := Lib.hid hq; clear hq
        cases q with
        | false =>
          go_wp2_with (go_at_call 29; refine hcon.out.mono ?_; rintro e w3 ⟨rfl, hb3⟩; have ho3 := (HW.out.alloc (.cells #[.int .i64 x.run, .int .i64 x.groomed, .int .i64 x.traffic] 32)).below hb3; have d0 := ho3.cellAt encS_len HLi.out (j := 0) rfl; rw [Nat.add_zero] at d0; have d1 := ho3.cellAt encS_len HLi.out (j := 1) rfl; have d2 := ho3.cellAt encS_len HLi.out (j := 2) rfl; have f0 := ho3.frozenAt (i * 3); have f1 := ho3.frozenAt (i * 3 + 1); have f2 := ho3.frozenAt (i * 3 + 2); have HO3 := Lib.hid ho3; clear ho3; have e0 := (hb3.cell (p := ⟨wr.heap.size, 0, none⟩) (by simp)).trans (by simp : _ = some (.int .i64 x.run)); have e1 := (hb3.cell (p := ⟨wr.heap.size, 1, none⟩) (by simp)).trans (by simp : _ = some (.int .i64 x.groomed)); have e2 := (hb3.cell (p := ⟨wr.heap.size, 2, none⟩) (by simp)).trans (by simp : _ = some (.int .i64 x.traffic)))
          exact ⟨⟨i + 1, j + 1, L.set i x, by go_num, by go_num, by omega, by omega, Lib.hid (hi.out.keep hij HX.out HQ.out), stored3 HO3.out HLi.out x, ((((hb.alloc (by omega) _).trans (hb3.mono (by simp; omega))).setCell (p := ⟨g, _, none⟩) hg1 _).setCell (p := ⟨g, _, none⟩) hg1 _).setCell (p := ⟨g, _, none⟩) hg1 _⟩, by simp [intOf]; omega⟩
        | true =>
          go_wp2_with (go_at_call 29; refine hcon.out.mono ?_; rintro e w3 ⟨rfl, hb3⟩)
          exact ⟨⟨i, j + 1, L, rfl, by go_num, by omega, by omega, Lib.hid (hi.out.skip HX.out HQ.out), (HW.out.alloc _).below hb3, (hb.alloc (by omega) _).trans (hb3.mono (by simp; omega))⟩, by simp [intOf]; omega⟩
      · have hlen := hi.out.len
        obtain ⟨w2, hcl, ho2, hgr⟩ := HW.out.cleared encS_len 22 (.agg #[.int .i64 0, .int .i64 0, .int .i64 0]) Try.underlying22 (fun _ => by kernel_rfl) rfl zeroS_one i (by omega)
        have HO2 := Lib.hid ho2
        have hcap : ¬ cap = i := by omega
        have HD := Lib.hid (hi.out.done hlt)
        clear ho2 hlen
        go_wp2
        go_ret
        exact ⟨_, rfl, by rw [← HD.out]; exact HO2.out, hb.grown hgr (by omega) (by intro k hk; injection hk with hk; omega)⟩
end Go.Proofs.Ytgjcoebfiangcaa.Old
