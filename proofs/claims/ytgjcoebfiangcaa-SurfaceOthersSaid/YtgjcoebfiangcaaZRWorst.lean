/- The reference's Worst. -/
import Derived.Test.YtgjcoebfiangcaaZWorst
namespace Go.Proofs.Ytgjcoebfiangcaa.Old
open Go.RowKit

set_option maxHeartbeats 2000000 in
theorem refWorst_any (xs : List Surf) (v : Value) (t least : Int) (w : World) (hv : Row encS 3 w v xs) (hl : xs.length ≤ 1000) (hok : ∀ x ∈ xs, okS x) (ht : t ≤ 9223372036854775807) :
    Calls Try.prog 23 #[v, .int .i64 t, .int .i64 least] w fun e w' => ∃ v', e = .returned v' ∧ Row encI 1 w' v' (worst xs t least) ∧ Below w.heap.size w w' := by
  obtain ⟨i0, hi, hz0, hz1, hz2⟩ := info_parts infoI
  obtain ⟨A, c, rfl, hc1, hc2, hcells⟩ := hv
  have H := Lib.hid hcells; have HK := Lib.hid hok; clear hcells hok
  go_enter Try.func23, Try.ntmps23
  go_wp2
  go_loopw [7, 8] (fun u n wr => ∃ q : Nat, q ≤ 1001 ∧ n = .int .i64 q ∧ ((q : Int) ≤ least ∨ q = 0) ∧ Own encI 1 3 w.heap.size wr u (worstTo xs t q) ∧ Below w.heap.size w wr) (fun _ n _ => 1001 - (intOf n).toNat)
  case atStart => exact ⟨0, by omega, rfl, .inr rfl, World.ownsRow_nil _ _ _ _, Below.refl _ _⟩
  case round =>
    obtain ⟨q, hq, rfl, hle, ho, hb⟩ := hrel
    by_cases hgo : (q : Int) ≤ 1000 ∧ (q : Int) < least
    · obtain ⟨hg1, hg2⟩ := hgo
      have HO := Lib.hid ho; have HL := Lib.hid hle; clear ho hle
      obtain ⟨wo, rfl⟩ : ∃ wo : World, wo = wr := ⟨_, rfl⟩
      go_wp2
      go_loopw [7, 9] (fun u n wr => ∃ k : Nat, k ≤ xs.length ∧ n = .int .i64 k ∧ Own encI 1 3 w.heap.size wr u (worstTo xs t q ++ bucket (xs.take k) t q) ∧ Below w.heap.size w wr) (fun _ n _ => xs.length - (intOf n).toNat)
      case atStart => exact ⟨0, by omega, rfl, by simpa [bucket] using HO.out, hb⟩
      case round =>
        obtain ⟨k, hk, rfl, ho, hb2⟩ := hrel
        by_cases hlt : k < xs.length
        · obtain ⟨b, off, rfl, hbl, hcl⟩ := H.out (by omega)
          have hx : xs[k]? = some xs[k] := List.getElem?_eq_getElem hlt
          have hc := hcl k _ hx
          have c0 := (hb2.cell (p := ⟨b, _, none⟩) hbl).trans (hc 0 _ rfl)
          rw [Nat.add_zero] at c0
          have d1 := (hb2.cell (p := ⟨b, _, none⟩) hbl).trans (hc 1 _ rfl)
          have d2 := (hb2.cell (p := ⟨b, _, none⟩) hbl).trans (hc 2 _ rfl)
          have hz := hb2.size
          have hbr : b < wr.heap.size := by omega
          have hne : b ≠ wr.heap.size := by omega
          have HX := Lib.hid hx
          have HS := Lib.hid ho
          have hxo := Lib.hid (HK.out _ (List.getElem_mem hlt))
          clear hcl hc hx H ho
          generalize xs[k] = x at *
          have hcon := Lib.hid (refQuality_any x t wr hxo.out ht)
          by_cases hqq : quality x t = q
          · have hb1 : (quality x t == (q : Int)) = true := by simpa using hqq
            have HQ := Lib.hid hqq; clear hqq
            have hlen : (worstTo xs t q ++ bucket (xs.take k) t q).length ≤ 1000000 + 1000 := by
              have h1 := worstTo_le xs t q
              have h2 := bucket_le (xs.take k) t q
              have h3 : q * xs.length ≤ 1000 * 1000 := Nat.mul_le_mul (by omega) hl
              rw [List.length_append]; simp at h2; omega
            go_wp2_with (first | (go_at_call 20; refine hcon.out.mono ?_; rintro e w' ⟨rfl, rfl⟩) | (at_builtin; refine wpList_append_any _ rfl (.tmp 33) (.tmp 39) 36 rfl w.heap.size 3 i0 _ 1 8 Try.underlying36 hi hz0 hz1 hz2 rfl (by decide) _ _ _ rfl ((HS.out.alloc _).alloc _) _ _ 1 1 _ rfl (reads_new_at (wr.alloc (.cells #[.int .i64 x.run, .int .i64 x.groomed, .int .i64 x.traffic] 32)) [.int .i64 x.run] 3 1 _ rfl (by simp)) (by simp [Value.oneCell']) (by unfold maxLen; omega) (by omega) (by simp; omega) ?_; intro v' w4 hown' hgrow _))
            exact ⟨⟨k + 1, by omega, by go_num, by rw [bucket_hit HX.out HQ.out, ← List.append_assoc]; exact Own.snoc hown' rfl, ((hb2.alloc hz _).alloc (by simp; omega) _).grown hgrow (by simp; omega) HS.out.lt⟩, by simp [intOf]; omega⟩
          · have hb1 : (quality x t == (q : Int)) = false := by simpa using hqq
            have HQ := Lib.hid hqq; clear hqq
            go_wp2_with (go_at_call 20; refine hcon.out.mono ?_; rintro e w' ⟨rfl, rfl⟩)
            exact ⟨⟨k + 1, by omega, by go_num, by rw [bucket_miss HX.out HQ.out]; exact HS.out.alloc _, hb2.alloc hz _⟩, by simp [intOf]; omega⟩
        · go_wp2
          exact ⟨⟨q + 1, by omega, by go_num, .inl (by omega), by have h := ho; rw [List.take_of_length_le (by omega)] at h; exact h, hb2⟩, by simp [intOf]; omega⟩
    · go_wp2
      all_goals
        go_ret
        have hqe : (min 1001 (max 0 least)).toNat = q := by omega
        exact ⟨_, rfl, by rw [worst, hqe]; exact ho.row encI_len, hb⟩
end Go.Proofs.Ytgjcoebfiangcaa.Old
