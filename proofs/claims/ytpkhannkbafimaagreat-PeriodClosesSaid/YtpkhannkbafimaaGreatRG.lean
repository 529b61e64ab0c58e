/- Periods: Close. -/
import Derived.Test.YtpkhannkbafimaaGreatRF
namespace Go.Proofs.YtpkhannkbafimaaGreat
open Go.RowKit
/-- What Close asks of the books. -/
def clsP (b : Bk) (due rec : List Share) : Prop := (smB b ∧ b.po.length ≤ 800000) ∧ due.length ≤ 9223372036854775807 ∧ rec.length ≤ 9223372036854775807

/-! skiarea/period.Close -/
def closeIr : IFn := ⟨100, [.cell 8 3 true, .tmp 9],
 (.seq (.ops [
 ⟨(some 4), .box, [.tmp 0], none⟩,
 ⟨(some 8), .alloc [.nil, .nil, .nil], [], none⟩,
 ⟨(some 9), .mov, [.const (.int .i64 0)], none⟩] false)
 (.seq (.seq (.ops [
 ⟨(some 16), .mov, [.tmp 1], none⟩,
 ⟨(some 17), .cmp .lss, [.tmp 16, .const (.int .i64 1)], none⟩,
 ⟨(some 18), .mov, [.tmp 17], none⟩,
 ⟨(some 19), .mov, [.tmp 1], (some (18, false))⟩,
 ⟨(some 20), .faddr 0, [.tmp 4], (some (18, false))⟩,
 ⟨(some 21), .load 1 false, [.tmp 20], (some (18, false))⟩,
 ⟨(some 22), .len, [.tmp 21], (some (18, false))⟩,
 ⟨(some 23), .cmp .gtr, [.tmp 19, .tmp 22], (some (18, false))⟩,
 ⟨(some 24), .pick, [.tmp 18, .const (.bool true), .tmp 23], none⟩] false)
 (.cond (.tmp 24)
 (.seq (.ops [
 ⟨(some 25), .build [.nil, .nil, .nil] [], [], none⟩,
 ⟨none, .store 3, [.tmp 8, .tmp 25], none⟩,
 ⟨(some 9), .mov, [.const (.int .i64 8)], none⟩] false)
 .ret)
 .skip))
 (.seq (.seq (.ops [
 ⟨(some 26), .mov, [.tmp 1], none⟩,
 ⟨(some 27), .load 3 true, [.tmp 4], none⟩,
 ⟨(some 28), .call 18, [.tmp 27], none⟩,
 ⟨(some 29), .cmp .neq, [.tmp 26, .tmp 28], none⟩] false)
 (.cond (.tmp 29)
 (.seq (.ops [
 ⟨(some 30), .build [.nil, .nil, .nil] [], [], none⟩,
 ⟨none, .store 3, [.tmp 8, .tmp 30], none⟩,
 ⟨(some 9), .mov, [.const (.int .i64 10)], none⟩] false)
 .ret)
 .skip))
 (.seq (.seq (.ops [
 ⟨(some 31), .mov, [.tmp 2], none⟩,
 ⟨(some 32), .call 61, [.tmp 31], none⟩,
 ⟨(some 33), .not, [.tmp 32], none⟩,
 ⟨(some 34), .mov, [.tmp 33], none⟩,
 ⟨(some 35), .mov, [.tmp 3], (some (34, false))⟩,
 ⟨(some 36), .call 61, [.tmp 35], (some (34, false))⟩,
 ⟨(some 37), .not, [.tmp 36], (some (34, false))⟩,
 ⟨(some 38), .pick, [.tmp 34, .const (.bool true), .tmp 37], none⟩,
 ⟨(some 39), .mov, [.tmp 38], none⟩,
 ⟨(some 40), .mov, [.tmp 2], (some (39, false))⟩,
 ⟨(some 41), .call 62, [.tmp 40], (some (39, false))⟩,
 ⟨(some 42), .mov, [.tmp 3], (some (39, false))⟩,
 ⟨(some 43), .call 62, [.tmp 42], (some (39, false))⟩,
 ⟨(some 44), .cmp .neq, [.tmp 41, .tmp 43], (some (39, false))⟩,
 ⟨(some 45), .pick, [.tmp 39, .const (.bool true), .tmp 44], none⟩] false)
 (.cond (.tmp 45)
 (.seq (.ops [
 ⟨(some 46), .build [.nil, .nil, .nil] [], [], none⟩,
 ⟨none, .store 3, [.tmp 8, .tmp 46], none⟩,
 ⟨(some 9), .mov, [.const (.int .i64 1)], none⟩] false)
 .ret)
 .skip))
 (.seq (.ops [
 ⟨(some 47), .load 3 true, [.tmp 4], none⟩,
 ⟨(some 48), .callo 49, [.tmp 47], none⟩,
 ⟨(some 10), .alloc [.nil, .nil, .nil], [], none⟩,
 ⟨none, .store 3, [.tmp 10, .tmp 48], none⟩] false)
 (.seq (.seq (.ops [
 ⟨(some 49), .mov, [.tmp 2], none⟩,
 ⟨(some 50), .mov, [.tmp 3], none⟩,
 ⟨(some 51), .call 64, [.tmp 49, .tmp 50], none⟩,
 ⟨(some 52), .call 63, [.tmp 51], none⟩,
 ⟨(some 53), .len, [.tmp 52], none⟩,
 ⟨(some 54), .mov, [.const (.int .i64 0)], none⟩] false)
 (.block 0
 (.loop
 (.seq (.ops [
 ⟨(some 55), .cmp .lss, [.tmp 54, .tmp 53], none⟩] false)
 (.seq (.cond (.tmp 55)
 .skip
 (.exit 0))
 (.seq (.block 1
 (.seq (.ops [
 ⟨(some 56), .mov, [.tmp 54], none⟩,
 ⟨(some 57), .idx 3, [.tmp 52, .tmp 54], none⟩,
 ⟨(some 58), .load 3 true, [.tmp 57], none⟩,
 ⟨(some 12), .alloc [.int .i64 0, .int .i64 0, .int .i64 0], [], none⟩,
 ⟨(some 11), .mov, [.tmp 56], none⟩,
 ⟨none, .store 3, [.tmp 12, .tmp 58], none⟩] false)
 (.seq (.ops [
 ⟨(some 59), .mov, [.tmp 1], none⟩,
 ⟨(some 60), .bin .mul .i64 false, [.tmp 59, .const (.int .i64 100)], none⟩,
 ⟨(some 61), .mov, [.tmp 11], none⟩,
 ⟨(some 62), .bin .add .i64 false, [.tmp 60, .tmp 61], none⟩,
 ⟨(some 63), .bin .add .i64 false, [.tmp 62, .const (.int .i64 1)], none⟩,
 ⟨(some 64), .faddr 0, [.tmp 12], none⟩,
 ⟨(some 65), .load 1 false, [.tmp 64], none⟩,
 ⟨(some 66), .faddr 1, [.tmp 12], none⟩,
 ⟨(some 67), .load 1 false, [.tmp 66], none⟩,
 ⟨(some 68), .faddr 2, [.tmp 12], none⟩,
 ⟨(some 69), .load 1 false, [.tmp 68], none⟩,
 ⟨(some 70), .build [.int .i64 0, .int .i64 0, .int .i64 0, .int .i64 0] [(0, 1), (1, 1), (2, 1), (3, 1)], [.tmp 63, .tmp 65, .tmp 67, .tmp 69], none⟩,
 ⟨(some 13), .alloc [.int .i64 0, .int .i64 0, .int .i64 0, .int .i64 0], [], none⟩,
 ⟨none, .store 4, [.tmp 13, .tmp 70], none⟩] false)
 (.seq (.ops [
 ⟨(some 72), .faddr 1, [.tmp 10], none⟩,
 ⟨(some 73), .load 1 false, [.tmp 72], none⟩,
 ⟨(some 74), .load 4 true, [.tmp 13], none⟩,
 ⟨(some 75), .callo 65, [.tmp 73, .tmp 74], none⟩,
 ⟨(some 71), .mov, [.tmp 75], none⟩,
 ⟨(some 76), .extract 0, [.tmp 71], none⟩,
 ⟨(some 77), .extract 1, [.tmp 71], none⟩,
 ⟨(some 14), .mov, [.tmp 76], none⟩,
 ⟨(some 15), .mov, [.tmp 77], none⟩] false)
 (.seq (.seq (.ops [
 ⟨(some 78), .mov, [.tmp 15], none⟩,
 ⟨(some 79), .cmp .neq, [.tmp 78, .const (.int .i64 0)], none⟩] false)
 (.cond (.tmp 79)
 (.seq (.ops [
 ⟨(some 80), .build [.nil, .nil, .nil] [], [], none⟩,
 ⟨(some 81), .mov, [.tmp 15], none⟩,
 ⟨none, .store 3, [.tmp 8, .tmp 80], none⟩,
 ⟨(some 9), .mov, [.tmp 81], none⟩] false)
 .ret)
 .skip))
 (.ops [
 ⟨(some 82), .mov, [.tmp 14], none⟩,
 ⟨(some 83), .faddr 1, [.tmp 10], none⟩,
 ⟨none, .store 1, [.tmp 83, .tmp 82], none⟩] false))))))
 (.ops [
 ⟨(some 84), .bin .add .i64 false, [.tmp 54, .const (.int .i64 1)], none⟩,
 ⟨(some 54), .mov, [.tmp 84], none⟩] false)))))))
 (.seq (.ops [
 ⟨(some 85), .faddr 0, [.tmp 10], none⟩,
 ⟨(some 86), .load 1 false, [.tmp 85], none⟩,
 ⟨(some 87), .mov, [.tmp 1], none⟩,
 ⟨(some 88), .bin .sub .i64 false, [.tmp 87, .const (.int .i64 1)], none⟩,
 ⟨(some 89), .idx 5, [.tmp 86, .tmp 88], none⟩,
 ⟨(some 90), .faddr 3, [.tmp 89], none⟩,
 ⟨none, .store 1, [.tmp 90, .const (.bool true)], none⟩] false)
 (.seq (.ops [
 ⟨(some 91), .faddr 0, [.tmp 10], none⟩,
 ⟨(some 92), .load 1 false, [.tmp 91], none⟩,
 ⟨(some 93), .mov, [.tmp 1], none⟩,
 ⟨(some 94), .bin .sub .i64 false, [.tmp 93, .const (.int .i64 1)], none⟩,
 ⟨(some 95), .mov, [.tmp 2], none⟩,
 ⟨(some 96), .call 66, [.tmp 95], none⟩,
 ⟨(some 97), .idx 5, [.tmp 92, .tmp 94], none⟩,
 ⟨(some 98), .faddr 4, [.tmp 97], none⟩,
 ⟨none, .store 1, [.tmp 98, .tmp 96], none⟩] true)
 (.seq (.ops [
 ⟨(some 99), .load 3 true, [.tmp 10], none⟩,
 ⟨none, .store 3, [.tmp 8, .tmp 99], none⟩,
 ⟨(some 9), .mov, [.const (.int .i64 0)], none⟩] false)
 .ret)))))))))⟩
theorem closeLow : lowF Tryz.prog { gives := [48, 75] } Tryz.f29 = some closeIr := by kernel_rfl
def closeS : Spec := spec (Bk × Int × List Share × List Share) (fun p => [aB p.1, I p.2.1, L 2 (p.2.2.1.map encS), L 2 (p.2.2.2.map encS)]) (fun p => clsP p.1 p.2.2.1 p.2.2.2) (fun p => clsX p.1 p.2.1 p.2.2.1 p.2.2.2)
set_option maxHeartbeats 4000000 in
theorem closeV : fnV Tryz.prog closeIr closeS := by
  intro ⟨(b : Bk), (n : Int), (due : List Share), (rec : List Share)⟩ hp
  obtain ⟨⟨hb, hpo8⟩, hdl, hrl⟩ : (smB b ∧ b.po.length ≤ 800000) ∧ due.length ≤ 9223372036854775807 ∧ rec.length ≤ 9223372036854775807 := hp
  obtain ⟨⟨c1, c2, c3⟩, c4⟩ : (b.ps.length ≤ 1000000 ∧ b.po.length ≤ 1000000 ∧ b.rs.length ≤ 1000000) ∧ ∀ p ∈ b.ps, p.sh.length ≤ 1000000 := hb
  have hb : smB b := ⟨⟨c1, c2, c3⟩, c4⟩
  have hok : okB b := ⟨⟨by omega, by omega⟩, by omega, fun p hp => by have := c4 p hp; omega⟩
  have hlp : (b.ps.map encP).length = b.ps.length := List.length_map ..
  have hlo : (b.po.map encO).length = b.po.length := List.length_map ..
  have hlr : (b.rs.map encC).length = b.rs.length := List.length_map ..
  have hE : clsE b n due rec = if n < 1 ∨ (b.ps.length : Int) < n then 8 else if n ≠ firstC b.ps then 10 else if accB due = false ∨ accB rec = false ∨ sumA due ≠ sumA rec then 1 else (postAll n 0 (cloT due rec) b.po).2 := rfl
  show vc _ _ _ _ ⟨argEnv 0 [aB b, I n, L 2 (due.map encS), L 2 (rec.map encS)], [], 0⟩
  by_cases h1 : n < 1 ∨ (b.ps.length : Int) < n
  · rw [if_pos h1] at hE
    repeat' ((conv => whnf); first | (refine ⟨fun h => ?_, fun h => ?_⟩ <;> try (exfalso; first | omega | exact absurd h (by decide) | exact h rfl | exact absurd (show true = false from h) (by decide) | exact absurd (show false = true from h) (by decide))) | fail | fail)
    all_goals (refine ⟨[], rfl, trivial, ?_⟩; show leR _ (clsX b n due rec); rw [clsX_err hE (by decide)]; exact ⟨⟨rfl, rfl, rfl, trivial⟩, rfl, trivial⟩)
  rw [if_neg h1] at hE
  obtain ⟨x, hx⟩ := getElem_some (show (n - 1).toNat < b.ps.length by omega)
  by_cases h2 : n ≠ firstC b.ps
  · rw [if_pos h2] at hE
    repeat' ((conv => whnf); first | (refine ⟨fun h => ?_, fun h => ?_⟩ <;> try (exfalso; first | omega | exact absurd h (by decide) | exact h rfl | exact absurd (show true = false from h) (by decide) | exact absurd (show false = true from h) (by decide))) | (refine ⟨_, First_h, b, hok, leVs_of_eq rfl, .inl rfl, rfl, ?_⟩; show norm (I (firstC b.ps)) _) | fail | fail)
    all_goals (refine ⟨[], rfl, trivial, ?_⟩; show leR _ (clsX b n due rec); rw [clsX_err hE (by decide)]; exact ⟨⟨rfl, rfl, rfl, trivial⟩, rfl, trivial⟩)
  rw [if_neg h2] at hE
  cases d1 : accB due with
  | false =>
    rw [if_pos (.inl d1)] at hE
    repeat' ((conv => whnf); first | (refine ⟨fun h => ?_, fun h => ?_⟩ <;> try (exfalso; first | omega | exact absurd h (by decide) | exact h rfl | exact absurd (show true = false from h) (by decide) | exact absurd (show false = true from h) (by decide))) | (refine ⟨_, First_h, b, hok, leVs_of_eq rfl, .inl rfl, rfl, ?_⟩; show norm (I (firstC b.ps)) _) | (refine ⟨_, acc_h, due, (by show due.length ≤ _; omega), leVs_of_eq rfl, .inl rfl, rfl, ?_⟩; show norm (B (accB due)) _; rw [d1]) | fail | fail)
    all_goals (refine ⟨[], rfl, trivial, ?_⟩; show leR _ (clsX b n due rec); rw [clsX_err hE (by decide)]; exact ⟨⟨rfl, rfl, rfl, trivial⟩, rfl, trivial⟩)
  | true =>
  cases d2 : accB rec with
  | false =>
    rw [if_pos (.inr (.inl d2))] at hE
    repeat' ((conv => whnf); first | (refine ⟨fun h => ?_, fun h => ?_⟩ <;> try (exfalso; first | omega | exact absurd h (by decide) | exact h rfl | exact absurd (show true = false from h) (by decide) | exact absurd (show false = true from h) (by decide))) | (refine ⟨_, First_h, b, hok, leVs_of_eq rfl, .inl rfl, rfl, ?_⟩; show norm (I (firstC b.ps)) _) | (refine ⟨_, acc_h, due, (by show due.length ≤ _; omega), leVs_of_eq rfl, .inl rfl, rfl, ?_⟩; show norm (B (accB due)) _; rw [d1]) | (refine ⟨_, acc_h, rec, (by show rec.length ≤ _; omega), leVs_of_eq rfl, .inl rfl, rfl, ?_⟩; show norm (B (accB rec)) _; rw [d2]) | fail | fail)
    all_goals (refine ⟨[], rfl, trivial, ?_⟩; show leR _ (clsX b n due rec); rw [clsX_err hE (by decide)]; exact ⟨⟨rfl, rfl, rfl, trivial⟩, rfl, trivial⟩)
  | true =>
  by_cases d3 : sumA due = sumA rec
  rotate_left
  · rw [if_pos (.inr (.inr d3))] at hE
    repeat' ((conv => whnf); first | (refine ⟨fun h => ?_, fun h => ?_⟩ <;> try (exfalso; first | omega | exact absurd h (by decide) | exact h rfl | exact absurd (show true = false from h) (by decide) | exact absurd (show false = true from h) (by decide))) | (refine ⟨_, First_h, b, hok, leVs_of_eq rfl, .inl rfl, rfl, ?_⟩; show norm (I (firstC b.ps)) _) | (refine ⟨_, acc_h, due, (by show due.length ≤ _; omega), leVs_of_eq rfl, .inl rfl, rfl, ?_⟩; show norm (B (accB due)) _; rw [d1]) | (refine ⟨_, acc_h, rec, (by show rec.length ≤ _; omega), leVs_of_eq rfl, .inl rfl, rfl, ?_⟩; show norm (B (accB rec)) _; rw [d2]) | (refine ⟨_, total_h, due, d1, leVs_of_eq rfl, .inl rfl, rfl, ?_⟩; show norm (I (sumA due)) _) | (refine ⟨_, total_h, rec, d2, leVs_of_eq rfl, .inl rfl, rfl, ?_⟩; show norm (I (sumA rec)) _) | fail | fail)
    all_goals (refine ⟨[], rfl, trivial, ?_⟩; show leR _ (clsX b n due rec); rw [clsX_err hE (by decide)]; exact ⟨⟨rfl, rfl, rfl, trivial⟩, rfl, trivial⟩)
  rw [if_neg (fun h => by rcases h with h | h | h; (rw [d1] at h; cases h); (rw [d2] at h; cases h); exact h d3)] at hE
  have hT8 := cloT_len d1 d2 d3
  have hd0 : due.length ≤ 1000000 := by have := acc_len d1; omega
  have hlt : ((cloT due rec).map encT).length = (cloT due rec).length := List.length_map ..
  have hkx : (b.ps.map encP)[(n - 1).toNat]? = some (encP x) := by rw [List.getElem?_map, hx]; rfl
  have hkx2 : ((b.ps.map encP).set (n - 1).toNat [CV.int .i64 x.num, .int .i64 x.fr, .int .i64 x.to, .bool true, .sl 2 (x.sh.map encS)])[(n - 1).toNat]? = some [CV.int .i64 x.num, .int .i64 x.fr, .int .i64 x.to, .bool true, .sl 2 (x.sh.map encS)] := List.getElem?_set_self (by rw [List.length_map]; omega)
  have hls : ((b.ps.map encP).set (n - 1).toNat [CV.int .i64 x.num, .int .i64 x.fr, .int .i64 x.to, .bool true, .sl 2 (x.sh.map encS)]).length = b.ps.length := by rw [List.length_set, List.length_map]
  repeat' ((conv => whnf); first | (refine ⟨fun h => ?_, fun h => ?_⟩ <;> try (exfalso; first | omega | exact absurd h (by decide) | exact h rfl | exact absurd (show true = false from h) (by decide) | exact absurd (show false = true from h) (by decide))) | (refine ⟨_, First_h, b, hok, leVs_of_eq rfl, .inl rfl, rfl, ?_⟩; show norm (I (firstC b.ps)) _) | (refine ⟨_, acc_h, due, (by show due.length ≤ _; omega), leVs_of_eq rfl, .inl rfl, rfl, ?_⟩; show norm (B (accB due)) _; rw [d1]) | (refine ⟨_, acc_h, rec, (by show rec.length ≤ _; omega), leVs_of_eq rfl, .inl rfl, rfl, ?_⟩; show norm (B (accB rec)) _; rw [d2]) | (refine ⟨_, total_h, due, d1, leVs_of_eq rfl, .inl rfl, rfl, ?_⟩; show norm (I (sumA due)) _) | (refine ⟨_, total_h, rec, d2, leVs_of_eq rfl, .inl rfl, rfl, ?_⟩; show norm (I (sumA rec)) _) | fail | fail)
  conv => whnf
  dsimp only
  refine ⟨rfl, _, copyOf_h, b, hb, leVs_of_eq rfl, trivial, ?_⟩
  repeat' ((conv => whnf); (try dsimp only [setL, List.map_cons, List.map_nil, List.take, List.drop, SV.cells, constV, shift, St.new, St.put, kills, killI, Nat.reduceAdd]); first | (refine ⟨_, posit_h, (due, rec), ⟨d1, d2⟩, leVs_of_eq rfl, .inl rfl, rfl, ?_⟩; show norm (L 2 ((posL due rec).map encS)) _) | (refine ⟨_, net_h, posL due rec, (posL_right d1 d2 d3), leVs_of_eq rfl, .inl rfl, rfl, ?_⟩; show norm (L 3 ((cloT due rec).map encT)) _) | fail | fail)
  refine ⟨Nat × (List Pst), fun xq => ⟨[(1, I n), (2, L 2 (due.map encS)), (8, .bp 0 0), (10, .bp 4 0), (52, L 3 ((cloT due rec).map encT)), (53, I ((cloT due rec).map encT).length), (54, I xq.1)], [(0, nils), (1, rowP b.ps), (2, rowO xq.2), (3, rowC b.rs), (4, .box [.osl 1, .osl 2, .osl 3])], 5⟩, fun xq => xq.1 ≤ (cloT due rec).length ∧ xq.2.length ≤ b.po.length + xq.1 ∧ postAll n xq.1 ((cloT due rec).drop xq.1) xq.2 = postAll n 0 (cloT due rec) b.po, fun xq => (cloT due rec).length - xq.1, ⟨(0, b.po), ?_, [(0, 1), (1, 2), (2, 3), (3, 4), (4, 5)], ⟨⟨rfl, rfl⟩, ⟨⟨rfl, rfl⟩, ⟨⟨rfl, rfl⟩, ⟨⟨rfl, rfl⟩, ⟨⟨rfl, rfl⟩, ⟨⟨rfl, rfl⟩, ⟨⟨rfl, rfl⟩, trivial⟩⟩⟩⟩⟩⟩⟩, ⟨⟨rfl, rfl, rfl⟩, ⟨⟨rfl, rfl, rfl⟩, ⟨⟨rfl, rfl, rfl⟩, ⟨⟨rfl, rfl, rfl⟩, ⟨⟨rfl, rfl, rfl⟩, trivial⟩⟩⟩⟩⟩, rfl, rfl, rfl⟩, ?_⟩
  · (try dsimp only); exact ⟨Nat.zero_le _, Nat.le_refl _, rfl⟩
  rintro ⟨k, po⟩ hk
  obtain ⟨hk, hpl, hpo⟩ : k ≤ (cloT due rec).length ∧ po.length ≤ b.po.length + k ∧ postAll n k ((cloT due rec).drop k) po = postAll n 0 (cloT due rec) b.po := hk
  (try dsimp only)
  by_cases hkl : k < (cloT due rec).length
  · obtain ⟨t, ht⟩ := getElem_some hkl
    have hdr := drop_of ht
    by_cases hq : (postF po (refP n k t)).2 ≠ 0
    · have hE2 : clsE b n due rec = (postF po (refP n k t)).2 := by rw [hE, ← hpo, hdr, postAll_bad hq]
      have e1 : postR po (refP n k t) = .tup [.c .nil, I (postF po (refP n k t)).2] := if_neg hq
      have e2 : postOb po (refP n k t) = [] := if_neg hq
      repeat' ((conv => whnf); first | (refine ⟨fun h => ?_, fun h => ?_⟩ <;> try (exfalso; first | omega | exact absurd h (by decide) | exact h rfl | exact absurd (show true = false from h) (by decide) | exact absurd (show false = true from h) (by decide))) | (refine ⟨by omega, fun r hrr => ?_⟩; first | ((have hre : r = encT t := by (first | exact get_row hrr ht | fail)); subst hre)) | (refine ⟨rfl, _, postO_h, (po, refP n k t), (by show po.length ≤ 900000; omega), ⟨leV_refl _, leV_refl _, trivial⟩, (by show rowsO (postOb po (refP n k t)); rw [e2]; trivial), ?_⟩; show norm (shift _ (postR po (refP n k t))) fun r' => setK (St.news _ (postOb po (refP n k t))) _ r' _; rw [e1, e2]) | refine ⟨⟨by omega, by omega⟩, ?_⟩ | fail | fail)
      all_goals (refine ⟨[], rfl, trivial, ?_⟩; show leR _ (clsX b n due rec); rw [clsX_err hE2 hq]; exact ⟨⟨rfl, rfl, rfl, trivial⟩, rfl, trivial⟩)
    · have hq' := Decidable.not_not.1 hq
      have e1 : postR po (refP n k t) = .tup [.osl 0, I 0] := if_pos hq'
      have e2 : postOb po (refP n k t) = [rowO (postF po (refP n k t)).1] := if_pos hq'
      repeat' ((conv => whnf); first | (refine ⟨fun h => ?_, fun h => ?_⟩ <;> try (exfalso; first | omega | exact absurd h (by decide) | exact h rfl | exact absurd (show true = false from h) (by decide) | exact absurd (show false = true from h) (by decide))) | (refine ⟨by omega, fun r hrr => ?_⟩; first | ((have hre : r = encT t := by (first | exact get_row hrr ht | fail)); subst hre)) | (refine ⟨rfl, _, postO_h, (po, refP n k t), (by show po.length ≤ 900000; omega), ⟨leV_refl _, leV_refl _, trivial⟩, (by show rowsO (postOb po (refP n k t)); rw [e2]; trivial), ?_⟩; show norm (shift _ (postR po (refP n k t))) fun r' => setK (St.news _ (postOb po (refP n k t))) _ r' _; rw [e1, e2]) | (refine ⟨(k + 1, (postF po (refP n k t)).1), ⟨?_, by (try dsimp only); omega⟩, [(2, 7)], ⟨⟨rfl, rfl⟩, ⟨⟨rfl, rfl⟩, ⟨⟨rfl, rfl⟩, ⟨⟨rfl, rfl⟩, ⟨⟨rfl, rfl⟩, ⟨⟨rfl, rfl⟩, ⟨⟨rfl, rfl⟩, trivial⟩⟩⟩⟩⟩⟩⟩, ⟨⟨rfl, rfl, rfl⟩, ⟨⟨rfl, rfl, rfl⟩, ⟨⟨rfl, rfl, rfl⟩, ⟨⟨rfl, rfl, rfl⟩, ⟨⟨rfl, rfl, rfl⟩, trivial⟩⟩⟩⟩⟩, rfl, rfl, rfl⟩; (try dsimp only); exact ⟨by omega, by have := postF_len po (refP n k t); omega, by rw [← postAll_go hq', ← hdr]; exact hpo⟩) | refine ⟨⟨by omega, by omega⟩, ?_⟩ | fail)
  · have hdn : (cloT due rec).drop k = [] := drop_end hkl
    rw [hdn] at hpo
    have hE2 : clsE b n due rec = 0 := by rw [hE, ← hpo]; rfl
    have hpo1 : (postAll n 0 (cloT due rec) b.po).1 = po := by rw [← hpo]; rfl
    repeat' ((conv => whnf); (try dsimp only [setL, List.map_cons, List.map_nil, List.take, List.drop, SV.cells, constV, shift, St.new, St.put, kills, killI, Nat.reduceAdd]); first | (refine ⟨fun h => ?_, fun h => ?_⟩ <;> try (exfalso; first | omega | exact absurd h (by decide) | exact h rfl | exact absurd (show true = false from h) (by decide) | exact absurd (show false = true from h) (by decide))) | refine get_at hkx ?_ | refine get_at hkx2 ?_ | (refine ⟨_, cloneS_h, due, hd0, leVs_of_eq rfl, .inl rfl, rfl, ?_⟩; show norm (L 2 (due.map encS)) _) | refine ⟨⟨by omega, by omega⟩, ?_⟩ | fail | fail)
    conv => whnf
    refine ⟨[], rfl, trivial, ?_⟩
    show leR _ (clsX b n due rec)
    rw [clsX_ok hE2 hx hpo1]
    exact ⟨⟨(by show leC (.sl 5 (((b.ps.map encP).set (n - 1).toNat (setL (encP x) 3 [CV.bool true])).set (n - 1).toNat (encP (shut x due)))) _; rw [List.set_set]; rfl), rfl, rfl, trivial⟩, rfl, trivial⟩
theorem close_h : Holds Tryz.prog 29 closeS := holds_of mix Tryz.func29 closeLow (fun _ => rfl) closeV

end Go.Proofs.YtpkhannkbafimaaGreat
