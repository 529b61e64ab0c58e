/- Periods: copies of books. -/
import Derived.Test.YtpkhannkbafimaaGreatR5
namespace Go.Proofs.YtpkhannkbafimaaGreat
open Go.RowKit
/-- Books whose copies have room. -/
def smB (b : Bk) : Prop := (b.ps.length ≤ 1000000 ∧ b.po.length ≤ 1000000 ∧ b.rs.length ≤ 1000000) ∧ ∀ p ∈ b.ps, p.sh.length ≤ 1000000
theorem set_same {α : Type} {l : List α} {i : Nat} {x : α} (h : l[i]? = some x) : l.set i x = l := by
  apply List.ext_getElem?
  intro j
  by_cases e : i = j
  · subst e; rw [List.getElem?_set_self (List.getElem?_eq_some_iff.1 h).1, h]
  · rw [List.getElem?_set_ne e]
abbrev rowP (l : List Per) : Ob := .row 76 5 (l.map encP)
abbrev rowO (l : List Pst) : Ob := .row 72 4 (l.map encO)
abbrev rowC (l : List Cnt) : Ob := .row 80 8 (l.map encC)
abbrev nils : Ob := .box [.c .nil, .c .nil, .c .nil]

/-! skiarea/period.copyOf -/
def copyOfIr : IFn := ⟨35, [.cell 2 3 true],
  (.seq (.ops [
    ⟨(some 1), .box, [.tmp 0], none⟩,
    ⟨(some 2), .alloc [.nil, .nil, .nil], [], none⟩] false)
  (.seq (.seq (.sealc 1)
  (.ops [
    ⟨(some 5), .faddrR 0, [.tmp 1], none⟩,
    ⟨(some 6), .loadR 1 false, [.tmp 5], none⟩,
    ⟨(some 7), .callo 81, [.tmp 6], none⟩,
    ⟨(some 8), .faddrR 1, [.tmp 1], none⟩,
    ⟨(some 9), .loadR 1 false, [.tmp 8], none⟩,
    ⟨(some 10), .callo 82, [.tmp 9], none⟩,
    ⟨(some 11), .faddrR 2, [.tmp 1], none⟩,
    ⟨(some 12), .loadR 1 false, [.tmp 11], none⟩,
    ⟨(some 13), .callo 83, [.tmp 12], none⟩,
    ⟨(some 14), .build [.nil, .nil, .nil] [(0, 1), (1, 1), (2, 1)], [.tmp 7, .tmp 10, .tmp 13], none⟩,
    ⟨(some 3), .alloc [.nil, .nil, .nil], [], none⟩,
    ⟨none, .store 3, [.tmp 3, .tmp 14], none⟩] true))
  (.seq (.seq (.ops [
    ⟨(some 15), .faddr 0, [.tmp 3], none⟩,
    ⟨(some 16), .load 1 false, [.tmp 15], none⟩,
    ⟨(some 17), .len, [.tmp 16], none⟩,
    ⟨(some 18), .mov, [.const (.int .i64 0)], none⟩] false)
  (.block 0
    (.loop
      (.seq (.ops [
        ⟨(some 19), .cmp .lss, [.tmp 18, .tmp 17], none⟩] false)
      (.seq (.cond (.tmp 19)
        .skip
        (.exit 0))
      (.seq (.block 1
        (.seq (.ops [
          ⟨(some 20), .mov, [.tmp 18], none⟩,
          ⟨(some 4), .mov, [.tmp 20], none⟩] false)
        (.ops [
          ⟨(some 21), .faddr 0, [.tmp 3], none⟩,
          ⟨(some 22), .load 1 false, [.tmp 21], none⟩,
          ⟨(some 23), .mov, [.tmp 4], none⟩,
          ⟨(some 24), .faddr 0, [.tmp 3], none⟩,
          ⟨(some 25), .load 1 false, [.tmp 24], none⟩,
          ⟨(some 26), .mov, [.tmp 4], none⟩,
          ⟨(some 27), .idx 5, [.tmp 25, .tmp 26], none⟩,
          ⟨(some 28), .faddr 4, [.tmp 27], none⟩,
          ⟨(some 29), .load 1 false, [.tmp 28], none⟩,
          ⟨(some 30), .call 66, [.tmp 29], none⟩,
          ⟨(some 31), .idx 5, [.tmp 22, .tmp 23], none⟩,
          ⟨(some 32), .faddr 4, [.tmp 31], none⟩,
          ⟨none, .store 1, [.tmp 32, .tmp 30], none⟩] true)))
      (.ops [
        ⟨(some 33), .bin .add .i64 false, [.tmp 18, .const (.int .i64 1)], none⟩,
        ⟨(some 18), .mov, [.tmp 33], none⟩] false)))))))
  (.seq (.ops [
    ⟨(some 34), .load 3 true, [.tmp 3], none⟩,
    ⟨none, .store 3, [.tmp 2, .tmp 34], none⟩] false)
  .ret))))⟩
theorem copyOfLow : lowF Tryz.prog { gives := [7, 10, 13], rps := [5, 6, 8, 9, 11, 12], seals := [(5, 1)] } Tryz.f49 = some copyOfIr := by kernel_rfl
def copyOfS : Spec := ⟨Bk, fun b => [aB b], smB, fun _ => .agg [.osl 0, .osl 1, .osl 2], fun b => [rowP b.ps, rowO b.po, rowC b.rs]⟩
theorem copyOfV : fnV Tryz.prog copyOfIr copyOfS := by
  intro (b : Bk) hb
  obtain ⟨⟨c1, c2, c3⟩, c4⟩ : (b.ps.length ≤ 1000000 ∧ b.po.length ≤ 1000000 ∧ b.rs.length ≤ 1000000) ∧ ∀ p ∈ b.ps, p.sh.length ≤ 1000000 := hb
  have hlp : (b.ps.map encP).length = b.ps.length := List.length_map ..
  have hlo : (b.po.map encO).length = b.po.length := List.length_map ..
  have hlr : (b.rs.map encC).length = b.rs.length := List.length_map ..
  show vc _ _ _ _ ⟨argEnv 0 [aB b], [], 0⟩
  conv => whnf
  refine ⟨rfl, _, cloneP_h, b.ps, c1, leVs_of_eq rfl, trivial, ?_⟩
  conv => whnf
  dsimp only
  refine ⟨rfl, _, cloneO_h, b.po, c2, leVs_of_eq rfl, trivial, ?_⟩
  conv => whnf
  dsimp only
  refine ⟨rfl, _, cloneR_h, b.rs, c3, leVs_of_eq rfl, trivial, ?_⟩
  conv => whnf
  dsimp only
  refine ⟨Nat, fun xq => ⟨[(2, .bp 0 0), (3, .bp 4 0), (17, I (b.ps.map encP).length), (18, I xq)], [(0, nils), (1, rowP b.ps), (2, rowO b.po), (3, rowC b.rs), (4, .box [.osl 1, .osl 2, .osl 3])], 5⟩, fun xq => xq ≤ b.ps.length, fun xq => b.ps.length - xq, ⟨0, ?_, [(0, 1), (1, 2), (2, 3), (3, 4), (4, 5)], ⟨⟨rfl, rfl⟩, ⟨⟨rfl, rfl⟩, ⟨⟨rfl, rfl⟩, ⟨⟨rfl, rfl⟩, trivial⟩⟩⟩⟩, ⟨⟨rfl, rfl, rfl⟩, ⟨⟨rfl, rfl, rfl⟩, ⟨⟨rfl, rfl, rfl⟩, ⟨⟨rfl, rfl, rfl⟩, ⟨⟨rfl, rfl, rfl⟩, trivial⟩⟩⟩⟩⟩, rfl, rfl, rfl⟩, ?_⟩
  · (try dsimp only); exact Nat.zero_le _
  rintro k hk
  obtain hk : k ≤ b.ps.length := hk
  (try dsimp only)
  by_cases hkl : k < b.ps.length
  · obtain ⟨x, hx⟩ := getElem_some hkl
    have hxs := c4 x (List.mem_of_getElem? hx)
    have hk1 : (b.ps.map encP)[((k : Nat) : Int).toNat]? = some (encP x) := by rw [Int.toNat_natCast, List.getElem?_map, hx]; rfl
    have hset : (b.ps.map encP).set ((k : Nat) : Int).toNat (setL (encP x) 4 [CV.sl 2 (x.sh.map encS)]) = b.ps.map encP := set_same hk1
    repeat' ((conv => whnf); first | (refine ⟨fun h => ?_, fun h => ?_⟩ <;> try (exfalso; first | omega | exact absurd h (by decide) | exact h rfl | exact absurd (show true = false from h) (by decide) | exact absurd (show false = true from h) (by decide))) | refine get_at hk1 ?_ | (refine ⟨_, cloneS_h, x.sh, hxs, leVs_of_eq rfl, .inl rfl, rfl, ?_⟩; show norm (L 2 (x.sh.map encS)) _) | (refine ⟨k + 1, ⟨?_, by (try dsimp only); omega⟩, [], ⟨⟨rfl, rfl⟩, ⟨⟨rfl, rfl⟩, ⟨⟨rfl, rfl⟩, ⟨⟨rfl, rfl⟩, trivial⟩⟩⟩⟩, ⟨⟨rfl, rfl, rfl⟩, ⟨⟨congrArg (fun es => some (Ob.row 76 5 es)) hset, rfl, rfl⟩, ⟨⟨rfl, rfl, rfl⟩, ⟨⟨rfl, rfl, rfl⟩, ⟨⟨rfl, rfl, rfl⟩, trivial⟩⟩⟩⟩⟩, rfl, rfl, rfl⟩; (try dsimp only); omega) | refine ⟨⟨by omega, by omega⟩, ?_⟩ | fail)
  · repeat' ((conv => whnf); first | (refine ⟨fun h => ?_, fun h => ?_⟩ <;> try (exfalso; first | omega | exact absurd h (by decide) | exact h rfl | exact absurd (show true = false from h) (by decide) | exact absurd (show false = true from h) (by decide))) | fail)
    conv => whnf
    exact ⟨[1, 2, 3], rfl, ⟨⟨rfl, _, _, _, rfl⟩, ⟨rfl, _, _, _, rfl⟩, ⟨rfl, _, _, _, rfl⟩, trivial⟩, rfl, rfl, rfl, trivial⟩
theorem copyOf_h : Holds Tryz.prog 49 copyOfS := holds_of mix Tryz.func49 copyOfLow (fun _ => rfl) copyOfV
def copR (b : Bk) : SV := match b.ps with
  | [] => .agg [.c .nil, .osl 0, .osl 1]
  | _ :: _ => .agg [.osl 0, .osl 1, .osl 2]
def copOb (b : Bk) : List Ob := match b.ps with
  | [] => [rowO b.po, rowC b.rs]
  | _ :: _ => [rowP b.ps, rowO b.po, rowC b.rs]

/-! skiarea/skiarearef38.copied -/
def copiedIr : IFn := ⟨40, [.cell 2 3 true],
  (.seq (.ops [
    ⟨(some 1), .box, [.tmp 0], none⟩,
    ⟨(some 2), .alloc [.nil, .nil, .nil], [], none⟩] false)
  (.seq (.ops [
    ⟨(some 3), .alloc [.nil, .nil, .nil], [], none⟩] false)
  (.seq (.seq (.ops [
    ⟨(some 4), .mov, [.const (.int .i64 0)], none⟩] false)
  (.block 0
    (.loop
      (.seq (.seq (.ops [
        ⟨(some 6), .mov, [.tmp 4], none⟩,
        ⟨(some 7), .faddr 0, [.tmp 1], none⟩,
        ⟨(some 8), .load 1 false, [.tmp 7], none⟩,
        ⟨(some 9), .len, [.tmp 8], none⟩,
        ⟨(some 10), .cmp .lss, [.tmp 6, .tmp 9], none⟩] false)
      (.cond (.tmp 10)
        .skip
        (.exit 0)))
      (.seq (.block 1
        (.seq (.ops [
          ⟨(some 13), .faddr 0, [.tmp 1], none⟩,
          ⟨(some 14), .load 1 false, [.tmp 13], none⟩,
          ⟨(some 15), .mov, [.tmp 4], none⟩,
          ⟨(some 16), .idx 5, [.tmp 14, .tmp 15], none⟩,
          ⟨(some 17), .load 5 true, [.tmp 16], none⟩,
          ⟨(some 5), .alloc [.int .i64 0, .int .i64 0, .int .i64 0, .bool false, .nil], [], none⟩,
          ⟨none, .store 5, [.tmp 5, .tmp 17], none⟩] false)
        (.seq (.ops [
          ⟨(some 18), .buildOwn 58 2, [], none⟩,
          ⟨(some 19), .faddr 4, [.tmp 5], none⟩,
          ⟨(some 20), .load 1 false, [.tmp 19], none⟩,
          ⟨(some 21), .append 58 2 16, [.tmp 18, .tmp 20], none⟩,
          ⟨(some 22), .faddr 4, [.tmp 5], none⟩,
          ⟨none, .store 1, [.tmp 22, .tmp 21], none⟩] false)
        (.seq (.sealc 21)
        (.ops [
          ⟨(some 23), .faddr 0, [.tmp 3], none⟩,
          ⟨(some 24), .load 1 false, [.tmp 23], none⟩,
          ⟨(some 25), .load 5 true, [.tmp 5], none⟩,
          ⟨(some 26), .buildSl 76 5, [.tmp 25], none⟩,
          ⟨(some 27), .append 76 5 56, [.tmp 24, .tmp 26], none⟩,
          ⟨(some 28), .faddr 0, [.tmp 3], none⟩,
          ⟨none, .store 1, [.tmp 28, .tmp 27], none⟩] false)))))
      (.ops [
        ⟨(some 11), .mov, [.tmp 4], none⟩,
        ⟨(some 12), .bin .add .i64 false, [.tmp 11, .const (.int .i64 1)], none⟩,
        ⟨(some 4), .mov, [.tmp 12], none⟩] false))))))
  (.seq (.ops [
    ⟨(some 29), .buildOwn 72 4, [], none⟩,
    ⟨(some 30), .faddr 1, [.tmp 1], none⟩,
    ⟨(some 31), .load 1 false, [.tmp 30], none⟩,
    ⟨(some 32), .append 72 4 32, [.tmp 29, .tmp 31], none⟩,
    ⟨(some 33), .faddr 1, [.tmp 3], none⟩,
    ⟨none, .store 1, [.tmp 33, .tmp 32], none⟩] false)
  (.seq (.ops [
    ⟨(some 34), .buildOwn 80 8, [], none⟩,
    ⟨(some 35), .faddr 2, [.tmp 1], none⟩,
    ⟨(some 36), .load 1 false, [.tmp 35], none⟩,
    ⟨(some 37), .append 80 8 64, [.tmp 34, .tmp 36], none⟩,
    ⟨(some 38), .faddr 2, [.tmp 3], none⟩,
    ⟨none, .store 1, [.tmp 38, .tmp 37], none⟩] false)
  (.seq (.ops [
    ⟨(some 39), .load 3 true, [.tmp 3], none⟩,
    ⟨none, .store 3, [.tmp 2, .tmp 39], none⟩] false)
  .ret))))))⟩
theorem copiedLow : lowF Tryz.prog { owns := [(18, 58), (29, 72), (34, 80)], seals := [(23, 21)] } Tryz.f51 = some copiedIr := by kernel_rfl
def copiedS : Spec := ⟨Bk, fun b => [aB b], smB, copR, copOb⟩
set_option maxHeartbeats 1000000 in
theorem copiedV : fnV Tryz.prog copiedIr copiedS := by
  intro (b : Bk) hb
  obtain ⟨⟨c1, c2, c3⟩, c4⟩ : (b.ps.length ≤ 1000000 ∧ b.po.length ≤ 1000000 ∧ b.rs.length ≤ 1000000) ∧ ∀ p ∈ b.ps, p.sh.length ≤ 1000000 := hb
  have hlp : (b.ps.map encP).length = b.ps.length := List.length_map ..
  have hlo : (b.po.map encO).length = b.po.length := List.length_map ..
  have hlr : (b.rs.map encC).length = b.rs.length := List.length_map ..
  show vc _ _ _ _ ⟨argEnv 0 [aB b], [], 0⟩
  conv => whnf
  refine ⟨Nat, fun xq => match xq with
    | 0 => ⟨[(1, .bp 0 0), (2, .bp 1 0), (3, .bp 2 0), (4, I (0 : Nat))], [(0, bB' b), (1, nils), (2, nils)], 3⟩
    | j + 1 => ⟨[(1, .bp 0 0), (2, .bp 1 0), (3, .bp 2 0), (4, I (j + 1 : Nat))], [(0, bB' b), (1, nils), (2, .box [.osl 3, .c .nil, .c .nil]), (3, rowP (b.ps.take (j + 1)))], 4⟩, fun xq => xq ≤ b.ps.length, fun xq => b.ps.length - xq, ⟨0, Nat.zero_le _, [], ⟨⟨rfl, rfl⟩, ⟨⟨rfl, rfl⟩, ⟨⟨rfl, rfl⟩, ⟨⟨rfl, rfl⟩, trivial⟩⟩⟩⟩, ⟨⟨rfl, rfl, rfl⟩, ⟨⟨rfl, rfl, rfl⟩, ⟨⟨rfl, rfl, rfl⟩, trivial⟩⟩⟩, rfl, rfl, rfl⟩, ?_⟩
  rintro k hk
  replace hk : k ≤ b.ps.length := hk
  cases k with
  | zero =>
    by_cases hkl : 0 < b.ps.length
    · obtain ⟨x, hx⟩ := getElem_some hkl
      have hxs := c4 x (List.mem_of_getElem? hx)
      have hsx : (x.sh.map encS).length = x.sh.length := List.length_map ..
      have hs : [encP x] = (b.ps.take (0 + 1)).map encP := by rw [take_snoc _ _ _ hx]; rfl
      repeat' ((conv => whnf); (try dsimp only [setL, List.map_cons, List.map_nil, List.take, List.drop, SV.cells, constV, shift, St.new, St.put, kills, killI, Nat.reduceAdd]); first | (refine ⟨fun h => ?_, fun h => ?_⟩ <;> try (exfalso; first | omega | exact absurd h (by decide) | exact h rfl | exact absurd (show true = false from h) (by decide) | exact absurd (show false = true from h) (by decide))) | (refine ⟨by omega, fun r hrr => ?_⟩; first | ((have hre : r = encP x := by (first | exact get_row (i := 0) hrr hx | fail)); subst hre)) | (refine ⟨0 + 1, ⟨?_, by (try dsimp only); omega⟩, [(3, 6)], ⟨⟨rfl, rfl⟩, ⟨⟨rfl, rfl⟩, ⟨⟨rfl, rfl⟩, ⟨⟨rfl, rfl⟩, trivial⟩⟩⟩⟩, ⟨⟨rfl, rfl, rfl⟩, ⟨⟨rfl, rfl, rfl⟩, ⟨⟨rfl, rfl, rfl⟩, ⟨⟨congrArg (fun es => some (Ob.row 76 5 es)) hs, rfl, rfl⟩, trivial⟩⟩⟩⟩, rfl, rfl, rfl⟩; (try dsimp only); omega) | (refine ⟨⟨by first | omega | (simp only [List.length_nil]; omega) | (simp only [List.length_cons, List.length_nil]; omega), by first | omega | (simp only [List.length_nil]; omega) | (simp only [List.length_cons, List.length_nil]; omega)⟩, ?_⟩) | refine ⟨⟨by omega, by omega⟩, ?_⟩ | fail)
    · have h0 : b.ps = [] := List.eq_nil_of_length_eq_zero (by omega)
      repeat' ((conv => whnf); (try dsimp only [setL, List.map_cons, List.map_nil, List.take, List.drop, SV.cells, constV, shift, St.new, St.put, kills, killI, Nat.reduceAdd]); first | (refine ⟨fun h => ?_, fun h => ?_⟩ <;> try (exfalso; first | omega | exact absurd h (by decide) | exact h rfl | exact absurd (show true = false from h) (by decide) | exact absurd (show false = true from h) (by decide))) | (refine ⟨⟨by first | omega | (simp only [List.length_nil]; omega) | (simp only [List.length_cons, List.length_nil]; omega), by first | omega | (simp only [List.length_nil]; omega) | (simp only [List.length_cons, List.length_nil]; omega)⟩, ?_⟩) | fail | fail)
      have e1 : copR b = .agg [.c .nil, .osl 0, .osl 1] := by unfold copR; rw [h0]
      have e2 : copOb b = [rowO b.po, rowC b.rs] := by unfold copOb; rw [h0]
      conv => whnf
      refine ⟨[4, 6], rfl, ?_, ?_⟩
      · show obsOk _ _ (copOb b)
        rw [e2]
        exact ⟨⟨rfl, _, _, _, rfl⟩, ⟨rfl, _, _, _, rfl⟩, trivial⟩
      · show leR _ (copR b)
        rw [e1]
        exact ⟨rfl, rfl, rfl, trivial⟩
  | succ j =>
    have hlt : ((b.ps.take (j + 1)).map encP).length = j + 1 := by rw [List.length_map, List.length_take]; omega
    by_cases hkl : j + 1 < b.ps.length
    · obtain ⟨x, hx⟩ := getElem_some hkl
      have hxs := c4 x (List.mem_of_getElem? hx)
      have hsx : (x.sh.map encS).length = x.sh.length := List.length_map ..
      have hs : (b.ps.take (j + 1)).map encP ++ [encP x] = (b.ps.take (j + 1 + 1)).map encP := by rw [take_snoc _ _ _ hx, List.map_append]; rfl
      repeat' ((conv => whnf); (try dsimp only [setL, List.map_cons, List.map_nil, List.take, List.drop, SV.cells, constV, shift, St.new, St.put, kills, killI, Nat.reduceAdd]); first | (refine ⟨fun h => ?_, fun h => ?_⟩ <;> try (exfalso; first | omega | exact absurd h (by decide) | exact h rfl | exact absurd (show true = false from h) (by decide) | exact absurd (show false = true from h) (by decide))) | (refine ⟨by omega, fun r hrr => ?_⟩; first | ((have hre : r = encP x := by (first | exact get_row hrr hx | fail)); subst hre)) | (refine ⟨j + 1 + 1, ⟨?_, by (try dsimp only); omega⟩, [(3, 7)], ⟨⟨rfl, rfl⟩, ⟨⟨rfl, rfl⟩, ⟨⟨rfl, rfl⟩, ⟨⟨rfl, rfl⟩, trivial⟩⟩⟩⟩, ⟨⟨rfl, rfl, rfl⟩, ⟨⟨rfl, rfl, rfl⟩, ⟨⟨rfl, rfl, rfl⟩, ⟨⟨congrArg (fun es => some (Ob.row 76 5 es)) hs, rfl, rfl⟩, trivial⟩⟩⟩⟩, rfl, rfl, rfl⟩; (try dsimp only); omega) | (refine ⟨⟨by first | omega | (simp only [List.length_nil]; omega) | (simp only [List.length_cons, List.length_nil]; omega), by first | omega | (simp only [List.length_nil]; omega) | (simp only [List.length_cons, List.length_nil]; omega)⟩, ?_⟩) | refine ⟨⟨by omega, by omega⟩, ?_⟩ | fail)
    · have htk : b.ps.take (j + 1) = b.ps := take_end hkl
      repeat' ((conv => whnf); (try dsimp only [setL, List.map_cons, List.map_nil, List.take, List.drop, SV.cells, constV, shift, St.new, St.put, kills, killI, Nat.reduceAdd]); first | (refine ⟨fun h => ?_, fun h => ?_⟩ <;> try (exfalso; first | omega | exact absurd h (by decide) | exact h rfl | exact absurd (show true = false from h) (by decide) | exact absurd (show false = true from h) (by decide))) | (refine ⟨⟨by first | omega | (simp only [List.length_nil]; omega) | (simp only [List.length_cons, List.length_nil]; omega), by first | omega | (simp only [List.length_nil]; omega) | (simp only [List.length_cons, List.length_nil]; omega)⟩, ?_⟩) | fail | fail)
      have hne : ∃ p r, b.ps = p :: r := by
        cases h : b.ps with
        | nil => rw [h] at hk; simp at hk
        | cons p r => exact ⟨p, r, rfl⟩
      obtain ⟨p, r, hpr⟩ := hne
      have e1 : copR b = .agg [.osl 0, .osl 1, .osl 2] := by unfold copR; rw [hpr]
      have e2 : copOb b = [rowP b.ps, rowO b.po, rowC b.rs] := by unfold copOb; rw [hpr]
      conv => whnf
      refine ⟨[3, 5, 7], rfl, ?_, ?_⟩
      · show obsOk _ _ (copOb b)
        rw [e2]
        exact ⟨⟨congrArg (fun l => some (rowP l)) htk, _, _, _, rfl⟩, ⟨rfl, _, _, _, rfl⟩, ⟨rfl, _, _, _, rfl⟩, trivial⟩
      · show leR _ (copR b)
        rw [e1]
        exact ⟨rfl, rfl, rfl, trivial⟩
theorem copied_h : Holds Tryz.prog 51 copiedS := holds_of mix Tryz.func51 copiedLow (fun _ => rfl) copiedV

end Go.Proofs.YtpkhannkbafimaaGreat
