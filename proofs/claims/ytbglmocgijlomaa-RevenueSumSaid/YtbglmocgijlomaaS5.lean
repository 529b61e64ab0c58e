/- Split, printed for this seat. No statement in sight. -/
import Derived.Test.YtbglmocgijlomaaE3
import Derived.Test.YtbglmocgijlomaaShelf
import Derived.Test.YtbglmocgijlomaaProg
import Derived.Test.YtbglmocgijlomaaS4
import Derived.Test.YtbglmocgijlomaaS3
/- The keys of a map of numbers, sorted: the kit's contracts in the engine's words. No statement in sight. -/
namespace Go.Proofs.Ytbglmocgijlomaa
open Go.RowKit Go.Maps Go.Sort Go.Shelf

/-- What is read of a map's values: nothing. -/
def anyVal (_ : Value) : Option (DataW Unit × List MemPlace) := some (.lit (.bool true), [])
def keyNum : Value → Int
  | .int _ a => a
  | _ => 0
def headI (l : List Int) : Int := l.headD 0

section
variable {P : Program} {w : World}
theorem own_of_map {k : TypeId} (hk : P.underlying k = some (.int .i64)) {b ck : Nat} {arr : Array MapEntry} {ag : Bool} {kv : List (List Int × List CV)} (hb : w.heap[b]? = some (.map arr ck)) (hbn : Born arr ck)
    (he : arr.toList.map (fun e => (e.key, e.val)) = kv.map (fun p => (encKey 0 p.1, encCell ag p.2))) (hl : kv.length ≤ 1000000) (hks : ∀ p ∈ kv, ∃ n : Int, p.1 = [n] ∧ (Lit.int .i64 n).wf = true) (hnd : (kv.map fun p => headI p.1).Nodup) :
    ∃ D0 : DataW Unit, w.ownsMap P k anyVal b kv.length D0 ∧ (intKeys D0).Perm (kv.map fun p => headI p.1) ∧ Maps.size D0 = kv.length := by
  have hlen : arr.toList.length = kv.length := by simpa using congrArg List.length he
  have hkey : arr.toList.map (fun e => e.key) = kv.map (fun p => encKey 0 p.1) := by
    have := congrArg (List.map Prod.fst) he
    simpa [List.map_map, Function.comp_def] using this
  have hnum : arr.toList.map (fun e => keyNum e.key) = kv.map (fun p => headI p.1) := by
    have := congrArg (List.map keyNum) hkey
    rw [List.map_map, List.map_map] at this
    refine this.trans (List.map_congr_left fun p hp => ?_)
    obtain ⟨n, e, _⟩ := hks p hp
    rw [Function.comp, e]; rfl
  have hform : ∀ x ∈ arr.toList, ∃ n : Int, x.key = .int .i64 n ∧ (Lit.int .i64 n).wf = true := by
    intro x hx
    have h1 : x.key ∈ kv.map (fun p => encKey 0 p.1) := by rw [← hkey]; exact List.mem_map.2 ⟨x, hx, rfl⟩
    obtain ⟨p, hp, e⟩ := List.mem_map.1 h1
    obtain ⟨n, e', hw⟩ := hks p hp
    exact ⟨n, by rw [← e, e']; rfl, hw⟩
  have hrd : ∀ x ∈ arr.toList, ∃ n : Int, x.key = .int .i64 n ∧ WideElems.rd P k anyVal x = some (.int .i64 n, .lit (.bool true)) := by
    intro x hx
    obtain ⟨n, e, hw⟩ := hform x hx
    refine ⟨n, e, ?_⟩
    unfold WideElems.rd
    rw [e, keyOf_int_mk hk hw]; rfl
  have hasz : arr.size = arr.toList.length := by simp
  have hmx : maxLen = 9223372036854775807 := rfl
  have hfit : WideElems.Fit P k anyVal arr ck := by
    refine ⟨by omega, ⟨hbn.1, hbn.2, ?_⟩, fun x hx => ?_⟩
    · have h1 : (arr.toList.map fun e => keyNum e.key).Nodup := by rw [hnum]; exact hnd
      rw [List.Nodup, List.pairwise_map] at h1 ⊢
      exact h1.imp fun h e => h (by rw [e])
    · obtain ⟨n, _, e⟩ := hrd x hx; exact ⟨_, e⟩
  refine ⟨.map ((arr.toList.map (WideElems.rg P k anyVal)).foldr DataW.insert []), ⟨arr, ck, hb, hfit, by omega, rfl⟩, ?_, ?_⟩
  · show (((arr.toList.map (WideElems.rg P k anyVal)).foldr DataW.insert []).map fun p => Go.intOf p.1).Perm _
    refine ((WideShapes.sorted_perm _).map _).trans ?_
    rw [List.map_map, ← hnum]
    refine List.Perm.of_eq (List.map_congr_left fun x hx => ?_)
    obtain ⟨n, e1, e2⟩ := hrd x hx
    rw [Function.comp, WideElems.rg_of e2, e1]; rfl
  · show ((arr.toList.map (WideElems.rg P k anyVal)).foldr DataW.insert []).length = _
    rw [(WideShapes.sorted_perm _).length_eq, List.length_map, hlen]
end

/-- maps.Keys: the map's place is boxed, and the function that walks it is handed back. -/
theorem keys_x (s : St) (id : Nat) {kv : List (List Int × List CV)} (hh : look s.heap id = some (.map 0 false kv)) (K : SV → St → Prop) (hK : K (.fn 81 [.bp s.nx 0]) (s.new (.box [.mp id]))) : callX Try.prog 56 s [.mp id] K := by
  refine ⟨fun v s' => v = .fn 81 [.bp s.nx 0] ∧ s' = s.new (.box [.mp id]), fun F w0 ι w us hm hr => ?_, fun v s' h => by obtain ⟨rfl, rfl⟩ := h; exact hK⟩
  have hr' := hr
  obtain ⟨u, ur, rfl, hu, hur⟩ := replist_cons hr
  obtain rfl := replist_nil hur
  have hu' := hu
  cases hu with
  | mp _ _ hx h1 h =>
    obtain ⟨b, c, hι, rfl⟩ := h _ _ _ hh
    refine ((callsIn_wide (n := 5)).1 (AnyZI.keys_in Try.keysA Fence.wide 5 trivial rfl (some b) w)).mono ?_
    rintro e w' ⟨rfl, rfl⟩
    obtain ⟨hs, hp⟩ := step_box (cs := [.mp id]) (vs := #[.map (some b)]) hm (Try.keysA_ren.t 23) hr' (by intro s hs; simp at hs; subst hs; rfl)
    refine ⟨_, rfl, (fun e => absurd e (by decide)), _, _, s.new (.box [.mp id]), rfl, hs, ?_, rfl, rfl⟩
    refine .fn _ _ [_] rfl fun i s v hs hv => ?_
    match i with
    | 0 => simp at hs hv; subst hs; subst hv; exact hp
    | i + 1 => simp at hs

theorem sortsA (m : Nat) : AnyZI.SortsIn Try.prog Try.sortedA_ren Fence.wide m :=
  ⟨fun blk off cap ss W hH hblk hsz => callsIn_wide.2 (AnyM.slices_Sort_int Try.sortA blk off cap ss W hH hblk hsz),
   fun p cap W => callsIn_wide.2 (AnyM.slices_Sort_int_none Try.sortA p cap W)⟩

theorem flat1 (zs : List Int) : (zs.map fun n => [CV.int .i64 n]).flatten = zs.map (CV.int .i64) := by
  induction zs with
  | nil => rfl
  | cons x r ih => rw [List.map_cons, List.flatten_cons, ih]; rfl
/-- slices.Sorted of a map's keys: a new row of them, in order. -/
theorem sorted_x (s : St) (j id : Nat) {kv : List (List Int × List CV)} (hj : look s.heap j = some (.box [.mp id])) (hh : look s.heap id = some (.map 0 false kv)) (hl : kv.length ≤ 1000000) (hks : ∀ p ∈ kv, ∃ n : Int, p.1 = [n] ∧ (Lit.int .i64 n).wf = true) (hnd : (kv.map fun p => headI p.1).Nodup)
    (zs : List Int) (hz : zs = (kv.map fun p => headI p.1).mergeSort Go.leI) (K : SV → St → Prop) (hK : K (.osl s.nx) (s.new (.row 3 1 (zs.map fun n => [CV.int .i64 n])))) : callX Try.prog 55 s [.fn 81 [.bp j 0]] K := by
  refine ⟨fun v s' => v = .osl s.nx ∧ s' = s.new (.row 3 1 (zs.map fun n => [CV.int .i64 n])), fun F w0 ι w us hm hr => ?_, fun v s' h => by obtain ⟨rfl, rfl⟩ := h; exact hK⟩
  obtain ⟨u, ur, rfl, hu, hur⟩ := replist_cons hr
  obtain rfl := replist_nil hur
  cases hu with
  | fn _ _ vs hvl hv =>
    obtain ⟨v, rfl⟩ : ∃ v, vs = [v] := by
      match vs, hvl with
      | [v], _ => exact ⟨v, rfl⟩
    have hv0 := hv 0 _ _ rfl rfl
    cases hv0 with
    | bp _ _ _ hx h1 h =>
      obtain ⟨bb, c, hι, rfl⟩ := h _ hj
      obtain ⟨bb', c', cur, e', hι', _, hcur, hsz, hcell⟩ := (hm.heap j _ hj).2
      rw [hι] at hι'; cases hι'
      obtain ⟨u0, hu0⟩ : ∃ u0, cur[0]? = some u0 := ⟨_, Array.getElem?_eq_getElem (by rw [hsz]; exact Nat.zero_lt_one)⟩
      have hrep := (hcell 0 _ _ rfl hu0).2
      cases hrep with
      | mp _ _ hx2 h2 hmp =>
        obtain ⟨bm, cm, hιm, rfl⟩ := hmp _ _ _ hh
        obtain ⟨bm', cm', arr, ck, hιm', _, ⟨hbm, hbn⟩, hent, _⟩ := (hm.heap id _ hh).2
        rw [hιm] at hιm'; cases hιm'
        obtain ⟨D0, hown, hperm, hsize⟩ := own_of_map (P := Try.prog) (k := 3) Try.underlying3 hbm hbn hent hl hks hnd
        have hbb : bb < w.heap.size := (Array.getElem?_eq_some_iff.1 hcur).1
        have hce : w.cell? ⟨bb, 0, none⟩ = some (.map (some bm)) := by simp [World.cell?, hcur, hu0]
        have hseq : SeqGives Fence.wide 2 Try.prog 81 #[.pointer (some ⟨bb, 0, none⟩)] encZ (fun ss => ss.Perm (intKeys D0)) (Maps.size D0) w :=
          AnyZI.keys_gives (ρ := Try.keysA_ren) { Try.keysA with } Fence.wide _ trivial rfl (by omega) bb bm _ D0 w hbb hce hown
        have hmx : maxLen = 9223372036854775807 := rfl
        have cS := AnyZI.sorted_in Try.sortedA Fence.wide 5 trivial trivial trivial trivial rfl (by omega) (sortsA _) (enters_of Try.func80 (by kernel_rfl) rfl) 81 #[.pointer (some ⟨bb, 0, none⟩)] trivial (enters_of Try.func81 (by kernel_rfl) rfl) _ _ (by rw [hsize]; omega) (by rw [hsize]; omega) _ hseq
        refine ((callsIn_wide (n := 5)).1 cS).mono ?_
        rintro e w' ⟨v, ss, rfl, hS, hrow, hnil, hb⟩
        have hzs : ss.mergeSort Go.leI = zs := by rw [hz]; exact mergeSort_of_perm_i (hS.trans hperm)
        have hlz : zs.length = ss.length := by rw [← hzs, (List.mergeSort_perm ss Go.leI).length_eq]
        have hrow' : w'.ownsRow w.heap.size 3 1 v (zs.map fun n => [CV.int .i64 n]).length (zs.map encZ) := by
          rw [List.length_map, hlz, ← hzs]; exact hrow
        obtain ⟨p, hpv, hp⟩ : ∃ p, v = ownVal p (zs.map fun n => [CV.int .i64 n]).length ∧ ∀ b c, p = some (b, c) → w.heap.size ≤ b := by
          rcases hrow'.2 with ⟨rfl, _⟩ | ⟨g, cap, cur', rfl, hg, _⟩
          · exact ⟨none, rfl, fun b c e => by cases e⟩
          · exact ⟨some (g, cap), rfl, fun b c e => by cases e; exact hg⟩
        rw [hpv] at hrow'
        have hst := step_row hm hb hp hrow' (by intro r hr; obtain ⟨n, _, rfl⟩ := List.mem_map.1 hr; rfl) (fun i c v hc hv => by
          rw [flat1] at hc
          rw [List.getElem?_map] at hc hv
          cases hzi : zs[i]? with
          | none => rw [hzi] at hc; cases hc
          | some n => rw [hzi] at hc hv; cases hc; cases hv; exact .int _ _)
        rw [hpv]
        exact ⟨_, rfl, (fun e => absurd e (by decide)), _, _, s.new (.row 3 1 (zs.map fun n => [CV.int .i64 n])), rfl, hst.1, hst.2, rfl, rfl⟩

end Go.Proofs.Ytbglmocgijlomaa

/- Split: Split. -/
namespace Go.Proofs.Ytbglmocgijlomaa
open Go.RowKit
/-- What Split answers. -/
def splT (a : Int) (ws : List Int) : SV := .tup [L 1 ((if chkF a ws = 0 then partsL a ws else []).map e1), I (chkF a ws)]
theorem qL_get {a : Int} {ws : List Int} {k : Nat} {w : Int} (h : ws[k]? = some w) : (qL a ws)[k]? = some (a * w / ws.sum) := by rw [qL, List.getElem?_map, h]; rfl
theorem rL_get {a : Int} {ws : List Int} {k : Nat} {w : Int} (h : ws[k]? = some w) : (rL a ws)[k]? = some (a * w % ws.sum) := by rw [rL, List.getElem?_map, h]; rfl
theorem Good.st {a : Int} {ws : List Int} (g : Good a ws) : stP ⟨rL a ws, idxL ws.length, ordL (rL a ws)⟩ := by
  have hl := g.len
  refine ⟨⟨fun y hy => ?_, by rw [rL_len]; omega⟩, ⟨idxL_stb _ _, by have := ordL_sorted (rL a ws); rw [rL_len] at this; exact this⟩, by rw [idxL_len]; omega⟩
  obtain ⟨i, hi, rfl⟩ := idxL_mem.1 hy
  rw [rL_len]; omega
theorem Good.incB {a : Int} {ws : List Int} (g : Good a ws) {is : List Int} (hn : is.Nodup) (h0 : ∀ i ∈ is, 0 ≤ i) {c : Nat} (hc : c < ws.length) : ∃ v, (incs (qL a ws) is)[c]? = some v ∧ 0 ≤ v ∧ v ≤ 1099511627777 := by
  obtain ⟨w, hw⟩ := getElem_some hc
  obtain ⟨q0, q1⟩ := g.q (List.mem_of_getElem? hw)
  have := g.a1
  refine ⟨_, incs_get is _ c _ hn h0 (qL_get hw), ?_⟩
  split <;> omega
theorem incr_eq {l : List Int} {c : Nat} {v : Int} (h : l[c]? = some v) : incr l c = l.set c (v + 1) := by rw [incr, Int.toNat_natCast, List.getD, h]; rfl

/-! skiarea/split.Split -/
def splitIr : IFn := ⟨85, [.tmp 4, .tmp 5],
  (.seq (.ops [
    ⟨(some 4), .mov, [.const (.slice none 0 0)], none⟩,
    ⟨(some 5), .mov, [.const (.int .i64 0)], none⟩] false)
  (.seq (.ops [
    ⟨(some 17), .mov, [.tmp 0], none⟩,
    ⟨(some 18), .mov, [.tmp 1], none⟩,
    ⟨(some 19), .call 37, [.tmp 17, .tmp 18], none⟩,
    ⟨(some 16), .mov, [.tmp 19], none⟩,
    ⟨(some 20), .extract 0, [.tmp 16], none⟩,
    ⟨(some 21), .extract 1, [.tmp 16], none⟩,
    ⟨(some 6), .mov, [.tmp 20], none⟩,
    ⟨(some 7), .mov, [.tmp 21], none⟩] false)
  (.seq (.seq (.ops [
    ⟨(some 22), .mov, [.tmp 7], none⟩,
    ⟨(some 23), .cmp .neq, [.tmp 22, .const (.int .i64 0)], none⟩] false)
  (.cond (.tmp 23)
    (.seq (.ops [
      ⟨(some 24), .mov, [.tmp 7], none⟩,
      ⟨(some 4), .mov, [.const (.slice none 0 0)], none⟩,
      ⟨(some 5), .mov, [.tmp 24], none⟩] false)
    .ret)
    .skip))
  (.seq (.ops [
    ⟨(some 25), .mov, [.tmp 1], none⟩,
    ⟨(some 26), .len, [.tmp 25], none⟩,
    ⟨(some 27), .mksl 3 1 8 [.int .i64 0], [.tmp 26, .tmp 26], none⟩,
    ⟨(some 8), .mov, [.tmp 27], none⟩] false)
  (.seq (.ops [
    ⟨(some 28), .mov, [.tmp 1], none⟩,
    ⟨(some 29), .len, [.tmp 28], none⟩,
    ⟨(some 30), .mksl 3 1 8 [.int .i64 0], [.tmp 29, .tmp 29], none⟩,
    ⟨(some 9), .alloc [.nil], [], none⟩,
    ⟨none, .store 1, [.tmp 9, .tmp 30], none⟩] false)
  (.seq (.ops [
    ⟨(some 31), .mov, [.tmp 1], none⟩,
    ⟨(some 32), .len, [.tmp 31], none⟩,
    ⟨(some 33), .mksl 3 1 8 [.int .i64 0], [.tmp 32, .tmp 32], none⟩,
    ⟨(some 10), .mov, [.tmp 33], none⟩] false)
  (.seq (.ops [
    ⟨(some 34), .mov, [.tmp 0], none⟩,
    ⟨(some 11), .mov, [.tmp 34], none⟩] false)
  (.seq (.seq (.ops [
    ⟨(some 35), .mov, [.tmp 1], none⟩,
    ⟨(some 36), .len, [.tmp 35], none⟩,
    ⟨(some 37), .mov, [.const (.int .i64 0)], none⟩] false)
  (.block 0
    (.loop
      (.seq (.ops [
        ⟨(some 38), .cmp .lss, [.tmp 37, .tmp 36], none⟩] false)
      (.seq (.cond (.tmp 38)
        .skip
        (.exit 0))
      (.seq (.block 1
        (.seq (.ops [
          ⟨(some 39), .mov, [.tmp 37], none⟩,
          ⟨(some 40), .idx 1, [.tmp 35, .tmp 37], none⟩,
          ⟨(some 41), .load 1 false, [.tmp 40], none⟩,
          ⟨(some 12), .mov, [.tmp 39], none⟩,
          ⟨(some 13), .mov, [.tmp 41], none⟩] false)
        (.seq (.ops [
          ⟨(some 43), .mov, [.tmp 8], none⟩,
          ⟨(some 44), .mov, [.tmp 12], none⟩,
          ⟨(some 45), .loadB 1 false, [.tmp 9], none⟩,
          ⟨(some 46), .mov, [.tmp 12], none⟩,
          ⟨(some 47), .mov, [.tmp 0], none⟩,
          ⟨(some 48), .mov, [.tmp 13], none⟩,
          ⟨(some 49), .mov, [.tmp 6], none⟩,
          ⟨(some 50), .call 38, [.tmp 47, .tmp 48, .tmp 49], none⟩,
          ⟨(some 42), .mov, [.tmp 50], none⟩,
          ⟨(some 51), .extract 0, [.tmp 42], none⟩,
          ⟨(some 52), .extract 1, [.tmp 42], none⟩,
          ⟨(some 53), .idx 1, [.tmp 43, .tmp 44], none⟩,
          ⟨none, .storeE 1, [.tmp 53, .tmp 51], none⟩,
          ⟨(some 54), .idx 1, [.tmp 45, .tmp 46], none⟩,
          ⟨none, .store 1, [.tmp 54, .tmp 52], none⟩] true)
        (.seq (.ops [
          ⟨(some 55), .mov, [.tmp 10], none⟩,
          ⟨(some 56), .mov, [.tmp 12], none⟩,
          ⟨(some 57), .mov, [.tmp 12], none⟩,
          ⟨(some 58), .idx 1, [.tmp 55, .tmp 56], none⟩,
          ⟨none, .store 1, [.tmp 58, .tmp 57], none⟩] false)
        (.ops [
          ⟨(some 59), .mov, [.tmp 11], none⟩,
          ⟨(some 60), .mov, [.tmp 8], none⟩,
          ⟨(some 61), .mov, [.tmp 12], none⟩,
          ⟨(some 62), .idx 1, [.tmp 60, .tmp 61], none⟩,
          ⟨(some 63), .load 1 false, [.tmp 62], none⟩,
          ⟨(some 64), .bin .sub .i64 false, [.tmp 59, .tmp 63], none⟩,
          ⟨(some 11), .mov, [.tmp 64], none⟩] false)))))
      (.ops [
        ⟨(some 65), .bin .add .i64 false, [.tmp 37, .const (.int .i64 1)], none⟩,
        ⟨(some 37), .mov, [.tmp 65], none⟩] false)))))))
  (.seq (.ops [
    ⟨(some 66), .mov, [.tmp 10], none⟩,
    ⟨(some 67), .fn 52, [.tmp 9], none⟩,
    ⟨(some 68), .callg 51, [.tmp 66, .tmp 67], none⟩] false)
  (.seq (.seq (.ops [
    ⟨(some 69), .mov, [.tmp 10], none⟩,
    ⟨(some 70), .mov, [.tmp 11], none⟩,
    ⟨(some 71), .sliceF 1 false true, [.tmp 69, .tmp 70], none⟩,
    ⟨(some 72), .len, [.tmp 71], none⟩,
    ⟨(some 73), .mov, [.const (.int .i64 0)], none⟩] false)
  (.block 2
    (.loop
      (.seq (.ops [
        ⟨(some 74), .cmp .lss, [.tmp 73, .tmp 72], none⟩] false)
      (.seq (.cond (.tmp 74)
        .skip
        (.exit 2))
      (.seq (.block 3
        (.seq (.ops [
          ⟨(some 75), .idx 1, [.tmp 71, .tmp 73], none⟩,
          ⟨(some 76), .load 1 false, [.tmp 75], none⟩,
          ⟨(some 15), .mov, [.tmp 76], none⟩] false)
        (.ops [
          ⟨(some 77), .mov, [.tmp 8], none⟩,
          ⟨(some 78), .mov, [.tmp 15], none⟩,
          ⟨(some 79), .idx 1, [.tmp 77, .tmp 78], none⟩,
          ⟨(some 80), .load 1 false, [.tmp 79], none⟩,
          ⟨(some 81), .bin .add .i64 false, [.tmp 80, .const (.int .i64 1)], none⟩,
          ⟨(some 82), .idx 1, [.tmp 77, .tmp 78], none⟩,
          ⟨none, .store 1, [.tmp 82, .tmp 81], none⟩] false)))
      (.ops [
        ⟨(some 83), .bin .add .i64 false, [.tmp 73, .const (.int .i64 1)], none⟩,
        ⟨(some 73), .mov, [.tmp 83], none⟩] false)))))))
  (.seq (.ops [
    ⟨(some 84), .mov, [.tmp 8], none⟩,
    ⟨(some 4), .mov, [.tmp 84], none⟩,
    ⟨(some 5), .mov, [.const (.int .i64 0)], none⟩] false)
  .ret)))))))))))⟩
theorem splitLow : lowF Try.prog { bxs := [45], eps := [53], gvs := [68], frz := [71] } Try.f33 = some splitIr := by kernel_rfl
def splitS : Spec := spec (Int × List Int) (fun p => [I p.1, L 1 (p.2.map e1)]) (fun p => p.2.length ≤ 1000000) (fun p => splT p.1 p.2)
theorem splitV : fnV Try.prog splitIr splitS := by
  intro ⟨(a : Int), (ws : List Int)⟩ hx
  replace hx : ws.length ≤ 1000000 := hx
  have hl : (ws.map e1).length = ws.length := List.length_map ..
  show vc _ _ _ _ ⟨argEnv 0 [I a, L 1 (ws.map e1)], [], 0⟩
  by_cases hc : chkF a ws = 0
  · have hct : chkT a ws = .tup [I ws.sum, I 0] := by unfold chkT; rw [hc, if_pos rfl]
    have g := good_of hc
    repeat' ((conv => whnf); first | (refine ⟨fun h => ?_, fun h => ?_⟩ <;> try (exfalso; first | omega | exact absurd h (by decide) | exact h rfl)) | (refine ⟨_, check_h, (a, ws), hx, leVs_of_eq rfl, .inl rfl, rfl, ?_⟩; show norm (chkT a ws) _; rw [hct]) | refine ⟨⟨by omega, by omega⟩, ?_⟩ | fail | fail)
    refine ⟨Nat × Int × (List (List CV)) × (List (List CV)) × (List (List CV)), fun xq => ⟨[(0, I a), (1, L 1 (ws.map e1)), (6, I ws.sum), (8, .osl 0), (9, .bp 2 0), (10, .osl 3), (11, I xq.2.1), (35, L 1 (ws.map e1)), (36, I (ws.map e1).length), (37, I xq.1)], [(0, .row 3 1 xq.2.2.1), (1, .row 3 1 xq.2.2.2.1), (2, .box [.osl 1]), (3, .row 3 1 xq.2.2.2.2)], 4⟩, fun xq => ((xq.1 ≤ ws.length ∧ xq.2.1 = a - ((qL a ws).take xq.1).sum) ∧ a - 1099511627776 * (xq.1 : Int) ≤ xq.2.1 ∧ xq.2.1 ≤ a) ∧ xq.2.2.1 = (upTo (qL a ws) ws.length xq.1).map e1 ∧ xq.2.2.2.1 = (upTo (rL a ws) ws.length xq.1).map e1 ∧ xq.2.2.2.2 = (upTo (idxL ws.length) ws.length xq.1).map e1, fun xq => ws.length - xq.1, ⟨(0, _, _, _, _), ?_, [], ⟨⟨rfl, rfl⟩, ⟨⟨rfl, rfl⟩, ⟨⟨rfl, rfl⟩, ⟨⟨rfl, rfl⟩, ⟨⟨rfl, rfl⟩, ⟨⟨rfl, rfl⟩, ⟨⟨rfl, rfl⟩, ⟨⟨rfl, rfl⟩, ⟨⟨rfl, rfl⟩, ⟨⟨rfl, rfl⟩, trivial⟩⟩⟩⟩⟩⟩⟩⟩⟩⟩, ⟨⟨rfl, rfl, rfl⟩, ⟨⟨rfl, rfl, rfl⟩, ⟨⟨rfl, rfl, rfl⟩, ⟨⟨rfl, rfl, rfl⟩, trivial⟩⟩⟩⟩, rfl, rfl, rfl⟩, ?_⟩
    · (try dsimp only); exact ⟨⟨⟨Nat.zero_le _, by simp⟩, by omega, by omega⟩, by rw [upTo_start]; simp, by rw [upTo_start]; simp, by rw [upTo_start]; simp⟩
    rintro ⟨k, m, ps, rs, os⟩ hk
    obtain ⟨⟨⟨hk, hm⟩, m0, m1⟩, rfl, rfl, rfl⟩ : ((k ≤ ws.length ∧ m = a - ((qL a ws).take k).sum) ∧ a - 1099511627776 * (k : Int) ≤ m ∧ m ≤ a) ∧ ps = (upTo (qL a ws) ws.length k).map e1 ∧ rs = (upTo (rL a ws) ws.length k).map e1 ∧ os = (upTo (idxL ws.length) ws.length k).map e1 := hk
    (try dsimp only)
    have hlp : ((upTo (qL a ws) ws.length k).map e1).length = ws.length := by rw [List.length_map, upTo_len hk (qL_len a ws)]
    have hlr : ((upTo (rL a ws) ws.length k).map e1).length = ws.length := by rw [List.length_map, upTo_len hk (rL_len a ws)]
    have hlo : ((upTo (idxL ws.length) ws.length k).map e1).length = ws.length := by rw [List.length_map, upTo_len hk (idxL_len _)]
    by_cases hkl : k < ws.length
    · obtain ⟨w, hw⟩ := getElem_some hkl
      obtain ⟨w0, w1⟩ := g.wOk w (List.mem_of_getElem? hw)
      have hws := le_sum (fun w hw => (g.wOk w hw).1) w (List.mem_of_getElem? hw)
      have hs0 := g.s0
      have hs1 := g.s1
      have ha0 := g.a0
      have ha1 := g.a1
      have hn64 := g.len
      obtain ⟨q0, q1⟩ := g.q (List.mem_of_getElem? hw)
      have gp : ((upTo (qL a ws) ws.length k).map e1)[(k : Int).toNat]? = some [.int .i64 0] := get_e1 (upTo_get (qL_get hw) (qL_len a ws))
      have gr : ((upTo (rL a ws) ws.length k).map e1)[(k : Int).toNat]? = some [.int .i64 0] := get_e1 (upTo_get (rL_get hw) (rL_len a ws))
      have go : ((upTo (idxL ws.length) ws.length k).map e1)[(k : Int).toNat]? = some [.int .i64 0] := get_e1 (upTo_get (idxL_get hkl) (idxL_len _))
      have gq : (((upTo (qL a ws) ws.length k).map e1).set (k : Int).toNat [.int .i64 (a * w / ws.sum)])[(k : Int).toNat]? = some [.int .i64 (a * w / ws.sum)] := List.getElem?_set_self (by rw [hlp]; exact hkl)
      have hps : ((upTo (qL a ws) ws.length k).map e1).set (k : Int).toNat [.int .i64 (a * w / ws.sum)] = (upTo (qL a ws) ws.length (k + 1)).map e1 := by rw [map_set1, Int.toNat_natCast, upTo_set (qL_get hw) (qL_len a ws)]
      have hrs : ((upTo (rL a ws) ws.length k).map e1).set (k : Int).toNat [.int .i64 (a * w % ws.sum)] = (upTo (rL a ws) ws.length (k + 1)).map e1 := by rw [map_set1, Int.toNat_natCast, upTo_set (rL_get hw) (rL_len a ws)]
      have hos : ((upTo (idxL ws.length) ws.length k).map e1).set (k : Int).toNat [.int .i64 (k : Int)] = (upTo (idxL ws.length) ws.length (k + 1)).map e1 := by rw [map_set1, Int.toNat_natCast, upTo_set (idxL_get hkl) (idxL_len _)]
      repeat' ((conv => whnf); first | (refine ⟨fun h => ?_, fun h => ?_⟩ <;> try (exfalso; first | omega | exact absurd h (by decide) | exact h rfl)) | (refine ⟨_, exact_h, (a, w, ws.sum), (by show (0 ≤ a ∧ a ≤ 1099511627776) ∧ (0 ≤ w ∧ w ≤ 1000000000) ∧ (1 ≤ ws.sum ∧ ws.sum ≤ 64000000000) ∧ w ≤ ws.sum; omega), leVs_of_eq rfl, .inl rfl, rfl, ?_⟩; show norm (.tup [I (a * w / ws.sum), I (a * w % ws.sum)]) _) | refine get_at gp ?_ | refine get_at gr ?_ | refine get_at go ?_ | refine get_at gq ?_ | (refine ⟨(k + 1, _, _, _, _), ⟨?_, by (try dsimp only); omega⟩, [], ⟨⟨rfl, rfl⟩, ⟨⟨rfl, rfl⟩, ⟨⟨rfl, rfl⟩, ⟨⟨rfl, rfl⟩, ⟨⟨rfl, rfl⟩, ⟨⟨rfl, rfl⟩, ⟨⟨rfl, rfl⟩, ⟨⟨rfl, rfl⟩, ⟨⟨rfl, rfl⟩, ⟨⟨rfl, rfl⟩, trivial⟩⟩⟩⟩⟩⟩⟩⟩⟩⟩, ⟨⟨rfl, rfl, rfl⟩, ⟨⟨rfl, rfl, rfl⟩, ⟨⟨rfl, rfl, rfl⟩, ⟨⟨rfl, rfl, rfl⟩, trivial⟩⟩⟩⟩, rfl, rfl, rfl⟩; (try dsimp only); exact ⟨⟨⟨by omega, by rw [sum_take (qL_get hw)]; omega⟩, by omega, by omega⟩, hps, hrs, hos⟩) | (refine ⟨by omega, fun r hrr => ?_⟩; (have hre : r = e1 w := by (first | exact get_row hrr hw | fail)); subst hre) | refine ⟨⟨by omega, by omega⟩, ?_⟩ | refine ⟨⟨by omega, by (rw [List.length_set]; omega)⟩, ?_⟩ | fail)
    · have hkn : k = ws.length := by omega
      subst hkn
      have hol : ((ordL (rL a ws)).map e1).length = ws.length := by rw [List.length_map, ordL_len, rL_len]
      obtain ⟨hle, hlt⟩ := g.left
      rw [List.take_of_length_le (by rw [qL_len]; omega)] at hm
      have hmt : m.toNat = leftN a ws := by omega
      rw [upTo_end (qL_len a ws), upTo_end (rL_len a ws), upTo_end (idxL_len _)]
      repeat' ((conv => whnf); first | (refine ⟨fun h => ?_, fun h => ?_⟩ <;> try (exfalso; first | omega | exact absurd h (by decide) | exact h rfl)) | (refine ⟨[3], _, sort_g, ⟨rL a ws, idxL ws.length, ordL (rL a ws)⟩, g.st, ⟨⟨⟨rfl, rfl, rfl⟩, trivial⟩, rfl, rfl, rfl⟩, ⟨⟨rfl, rfl⟩, rfl, trivial⟩, .inr ⟨rfl, ⟨cln1 _, trivial⟩, trivial⟩, ⟨⟨⟨⟨rfl, rfl⟩, by (show ((ordL (rL a ws)).map e1).length = ((idxL ws.length).map e1).length; rw [hol, List.length_map, idxL_len])⟩, trivial⟩, trivial⟩, ?_⟩) | (refine ⟨(by show (0 : Int) ≤ 0 ∧ 0 ≤ m ∧ m ≤ (((ordL (rL a ws)).map e1).length : Int); omega), ?_⟩) | fail | fail)
      refine ⟨Nat × (List (List CV)) × (List (List CV)), fun xq => ⟨[(8, .osl 0), (71, L 1 xq.2.1), (72, I xq.2.1.length), (73, I xq.1)], [(0, .row 3 1 xq.2.2)], 1⟩, fun xq => xq.1 ≤ leftN a ws ∧ xq.2.1 = ((ordL (rL a ws)).take (leftN a ws)).map e1 ∧ xq.2.2 = (incs (qL a ws) (((ordL (rL a ws)).take (leftN a ws)).take xq.1)).map e1, fun xq => leftN a ws - xq.1, ⟨(0, _, _), ?_, [], ⟨⟨rfl, rfl⟩, ⟨⟨rfl, rfl⟩, ⟨⟨rfl, rfl⟩, ⟨⟨rfl, rfl⟩, trivial⟩⟩⟩⟩, ⟨⟨rfl, rfl, rfl⟩, trivial⟩, rfl, rfl, rfl⟩, ?_⟩
      · (try dsimp only); exact ⟨Nat.zero_le _, by show List.drop 0 (((ordL (rL a ws)).map e1).take m.toNat) = _; rw [List.drop_zero, ← List.map_take, hmt], rfl⟩
      rintro ⟨k, ts, ps⟩ hk
      obtain ⟨hk2, rfl, rfl⟩ : k ≤ leftN a ws ∧ ts = ((ordL (rL a ws)).take (leftN a ws)).map e1 ∧ ps = (incs (qL a ws) (((ordL (rL a ws)).take (leftN a ws)).take k)).map e1 := hk
      (try dsimp only)
      have hTl : ((ordL (rL a ws)).take (leftN a ws)).length = leftN a ws := by rw [List.length_take, ordL_len, rL_len]; omega
      have hTn : ((ordL (rL a ws)).take (leftN a ws)).Nodup := (ordL_nodup _).sublist (List.take_sublist _ _)
      have hTm : ∀ i ∈ (ordL (rL a ws)).take (leftN a ws), ∃ c : Nat, c < ws.length ∧ i = c := fun i hi => by have := ordL_mem (List.mem_of_mem_take hi); rw [rL_len] at this; exact this
      have hfin : partsL a ws = incs (qL a ws) ((ordL (rL a ws)).take (leftN a ws)) := rfl
      generalize (ordL (rL a ws)).take (leftN a ws) = T at *
      have hml : (T.map e1).length = T.length := List.length_map ..
      have hpl : ((incs (qL a ws) (T.take k)).map e1).length = ws.length := by rw [List.length_map, incs_len, qL_len]
      by_cases hkT : k < T.length
      · obtain ⟨w, hw⟩ := getElem_some hkT
        obtain ⟨c, hcn, hwc⟩ := hTm w (List.mem_of_getElem? hw)
        subst hwc
        obtain ⟨v, hv, v0, v1⟩ := g.incB (is := T.take k) (hTn.sublist (List.take_sublist _ _)) (fun i hi => by obtain ⟨j, _, rfl⟩ := hTm i (List.mem_of_mem_take hi); omega) hcn
        have gp : ((incs (qL a ws) (T.take k)).map e1)[(c : Int).toNat]? = some [.int .i64 v] := get_e1 hv
        have hps : ((incs (qL a ws) (T.take k)).map e1).set (c : Int).toNat [.int .i64 (v + 1)] = (incs (qL a ws) (T.take (k + 1))).map e1 := by rw [map_set1, Int.toNat_natCast, take_snoc T k _ hw, incs_snoc, incr_eq hv]
        repeat' ((conv => whnf); first | (refine ⟨fun h => ?_, fun h => ?_⟩ <;> try (exfalso; first | omega | exact absurd h (by decide) | exact h rfl)) | refine get_at gp ?_ | (refine ⟨(k + 1, _, _), ⟨?_, by (try dsimp only); omega⟩, [], ⟨⟨rfl, rfl⟩, ⟨⟨rfl, rfl⟩, ⟨⟨rfl, rfl⟩, ⟨⟨rfl, rfl⟩, trivial⟩⟩⟩⟩, ⟨⟨rfl, rfl, rfl⟩, trivial⟩, rfl, rfl, rfl⟩; (try dsimp only); exact ⟨by omega, rfl, hps⟩) | (refine ⟨by omega, fun r hrr => ?_⟩; (have hre : r = e1 (c : Int) := by (first | exact get_row hrr hw | fail)); subst hre) | refine ⟨⟨by omega, by omega⟩, ?_⟩ | refine ⟨⟨by omega, by (rw [List.length_set]; omega)⟩, ?_⟩ | fail)
      · rw [take_end hkT]
        repeat' ((conv => whnf); first | (refine ⟨fun h => ?_, fun h => ?_⟩ <;> try (exfalso; first | omega | exact absurd h (by decide) | exact h rfl)) | fail | fail)
        all_goals (refine ⟨[], rfl, trivial, ?_⟩; show leR _ (splT a ws); unfold splT; rw [if_pos hc, hc, hfin]; exact ⟨rfl, rfl, trivial⟩)
  · have hct : chkT a ws = .tup [I 0, I (chkF a ws)] := by unfold chkT; rw [if_neg hc]
    repeat' ((conv => whnf); first | (refine ⟨fun h => ?_, fun h => ?_⟩ <;> try (exfalso; first | omega | exact absurd h (by decide) | exact h rfl)) | (refine ⟨_, check_h, (a, ws), hx, leVs_of_eq rfl, .inl rfl, rfl, ?_⟩; show norm (chkT a ws) _; rw [hct]) | fail | fail)
    all_goals (refine ⟨[], rfl, trivial, ?_⟩; show leR _ (splT a ws); unfold splT; rw [if_neg hc]; exact ⟨rfl, rfl, trivial⟩)
theorem split_h : Holds Try.prog 33 splitS := holds_of mix Try.func33 splitLow (fun _ => rfl) splitV

end Go.Proofs.Ytbglmocgijlomaa

/- Split: the reference's Split. -/
namespace Go.Proofs.Ytbglmocgijlomaa
open Go.RowKit
theorem Good.incsB {a : Int} {ws : List Int} (g : Good a ws) {is : List Int} (hn : is.Nodup) (h0 : ∀ i ∈ is, 0 ≤ i) : (incs (qL a ws) is).length ≤ 1000000 ∧ ∀ x ∈ incs (qL a ws) is, -2199023255552 ≤ x ∧ x ≤ 2199023255552 := by
  have hl := g.len
  refine ⟨by rw [incs_len, qL_len]; omega, fun x hx => ?_⟩
  obtain ⟨i, hi⟩ := List.getElem?_of_mem hx
  have hin := (List.getElem?_eq_some_iff.1 hi).1
  rw [incs_len, qL_len] at hin
  obtain ⟨v, hv, v0, v1⟩ := g.incB hn h0 hin
  rw [hv] at hi; cases hi; omega

/-! skiarea/skiarearef34.Split -/
def rsplitIr : IFn := ⟨100, [.tmp 4, .tmp 5],
  (.seq (.ops [
    ⟨(some 4), .mov, [.const (.slice none 0 0)], none⟩,
    ⟨(some 5), .mov, [.const (.int .i64 0)], none⟩] false)
  (.seq (.seq (.ops [
    ⟨(some 15), .mov, [.tmp 1], none⟩,
    ⟨(some 16), .len, [.tmp 15], none⟩,
    ⟨(some 17), .cmp .gtr, [.tmp 16, .const (.int .i64 64)], none⟩] false)
  (.cond (.tmp 17)
    (.seq (.ops [
      ⟨(some 4), .mov, [.const (.slice none 0 0)], none⟩,
      ⟨(some 5), .mov, [.const (.int .i64 4)], none⟩] false)
    .ret)
    .skip))
  (.seq (.seq (.ops [
    ⟨(some 18), .mov, [.tmp 0], none⟩,
    ⟨(some 19), .cmp .lss, [.tmp 18, .const (.int .i64 0)], none⟩,
    ⟨(some 20), .mov, [.tmp 19], none⟩,
    ⟨(some 21), .mov, [.tmp 0], (some (20, false))⟩,
    ⟨(some 22), .cmp .gtr, [.tmp 21, .const (.int .i64 1099511627776)], (some (20, false))⟩,
    ⟨(some 23), .pick, [.tmp 20, .const (.bool true), .tmp 22], none⟩] false)
  (.cond (.tmp 23)
    (.seq (.ops [
      ⟨(some 4), .mov, [.const (.slice none 0 0)], none⟩,
      ⟨(some 5), .mov, [.const (.int .i64 2)], none⟩] false)
    .ret)
    .skip))
  (.seq (.seq (.ops [
    ⟨(some 6), .mov, [.const (.int .i64 0)], none⟩] false)
  (.block 0
    (.loop
      (.seq (.seq (.ops [
        ⟨(some 24), .mov, [.tmp 6], none⟩,
        ⟨(some 25), .mov, [.tmp 1], none⟩,
        ⟨(some 26), .len, [.tmp 25], none⟩,
        ⟨(some 27), .cmp .lss, [.tmp 24, .tmp 26], none⟩] false)
      (.cond (.tmp 27)
        .skip
        (.exit 0)))
      (.seq (.block 1
        (.seq (.ops [
          ⟨(some 30), .mov, [.tmp 1], none⟩,
          ⟨(some 31), .mov, [.tmp 6], none⟩,
          ⟨(some 32), .idx 1, [.tmp 30, .tmp 31], none⟩,
          ⟨(some 33), .load 1 false, [.tmp 32], none⟩,
          ⟨(some 34), .cmp .lss, [.tmp 33, .const (.int .i64 0)], none⟩,
          ⟨(some 35), .mov, [.tmp 34], none⟩,
          ⟨(some 36), .mov, [.tmp 1], (some (35, false))⟩,
          ⟨(some 37), .mov, [.tmp 6], (some (35, false))⟩,
          ⟨(some 38), .idx 1, [.tmp 36, .tmp 37], (some (35, false))⟩,
          ⟨(some 39), .load 1 false, [.tmp 38], (some (35, false))⟩,
          ⟨(some 40), .cmp .gtr, [.tmp 39, .const (.int .i64 1000000000)], (some (35, false))⟩,
          ⟨(some 41), .pick, [.tmp 35, .const (.bool true), .tmp 40], none⟩] false)
        (.cond (.tmp 41)
          (.seq (.ops [
            ⟨(some 4), .mov, [.const (.slice none 0 0)], none⟩,
            ⟨(some 5), .mov, [.const (.int .i64 2)], none⟩] false)
          .ret)
          .skip)))
      (.ops [
        ⟨(some 28), .mov, [.tmp 6], none⟩,
        ⟨(some 29), .bin .add .i64 false, [.tmp 28, .const (.int .i64 1)], none⟩,
        ⟨(some 6), .mov, [.tmp 29], none⟩] false))))))
  (.seq (.ops [
    ⟨(some 42), .mov, [.tmp 1], none⟩,
    ⟨(some 43), .call 57, [.tmp 42], none⟩,
    ⟨(some 7), .mov, [.tmp 43], none⟩] false)
  (.seq (.seq (.ops [
    ⟨(some 44), .mov, [.tmp 7], none⟩,
    ⟨(some 45), .cmp .eql, [.tmp 44, .const (.int .i64 0)], none⟩] false)
  (.cond (.tmp 45)
    (.seq (.ops [
      ⟨(some 4), .mov, [.const (.slice none 0 0)], none⟩,
      ⟨(some 5), .mov, [.const (.int .i64 1)], none⟩] false)
    .ret)
    .skip))
  (.seq (.ops [
    ⟨(some 8), .nilOwn 3 1, [], none⟩,
    ⟨(some 9), .nilOwn 3 1, [], none⟩] false)
  (.seq (.seq (.ops [
    ⟨(some 10), .mov, [.const (.int .i64 0)], none⟩] false)
  (.block 2
    (.loop
      (.seq (.seq (.ops [
        ⟨(some 46), .mov, [.tmp 10], none⟩,
        ⟨(some 47), .mov, [.tmp 1], none⟩,
        ⟨(some 48), .len, [.tmp 47], none⟩,
        ⟨(some 49), .cmp .lss, [.tmp 46, .tmp 48], none⟩] false)
      (.cond (.tmp 49)
        .skip
        (.exit 2)))
      (.seq (.block 3
        (.seq (.ops [
          ⟨(some 53), .mov, [.tmp 0], none⟩,
          ⟨(some 54), .mov, [.tmp 1], none⟩,
          ⟨(some 55), .mov, [.tmp 10], none⟩,
          ⟨(some 56), .idx 1, [.tmp 54, .tmp 55], none⟩,
          ⟨(some 57), .load 1 false, [.tmp 56], none⟩,
          ⟨(some 58), .mov, [.tmp 7], none⟩,
          ⟨(some 59), .call 58, [.tmp 53, .tmp 57, .tmp 58], none⟩,
          ⟨(some 52), .mov, [.tmp 59], none⟩,
          ⟨(some 60), .extract 0, [.tmp 52], none⟩,
          ⟨(some 61), .extract 1, [.tmp 52], none⟩,
          ⟨(some 11), .mov, [.tmp 60], none⟩,
          ⟨(some 12), .mov, [.tmp 61], none⟩] false)
        (.seq (.ops [
          ⟨(some 62), .mov, [.tmp 8], none⟩,
          ⟨(some 63), .mov, [.tmp 11], none⟩,
          ⟨(some 64), .buildSl 3 1, [.tmp 63], none⟩,
          ⟨(some 65), .append 3 1 8, [.tmp 62, .tmp 64], none⟩,
          ⟨(some 8), .mov, [.tmp 65], none⟩] false)
        (.ops [
          ⟨(some 66), .mov, [.tmp 9], none⟩,
          ⟨(some 67), .mov, [.tmp 12], none⟩,
          ⟨(some 68), .buildSl 3 1, [.tmp 67], none⟩,
          ⟨(some 69), .append 3 1 8, [.tmp 66, .tmp 68], none⟩,
          ⟨(some 9), .mov, [.tmp 69], none⟩] false))))
      (.ops [
        ⟨(some 50), .mov, [.tmp 10], none⟩,
        ⟨(some 51), .bin .add .i64 false, [.tmp 50, .const (.int .i64 1)], none⟩,
        ⟨(some 10), .mov, [.tmp 51], none⟩] false))))))
  (.seq (.block 4
    (.loop
      (.seq (.seq (.ops [
        ⟨(some 70), .mov, [.tmp 8], none⟩,
        ⟨(some 71), .call 57, [.tmp 70], none⟩,
        ⟨(some 72), .mov, [.tmp 0], none⟩,
        ⟨(some 73), .cmp .lss, [.tmp 71, .tmp 72], none⟩] false)
      (.cond (.tmp 73)
        .skip
        (.exit 4)))
      (.block 5
        (.seq (.ops [
          ⟨(some 13), .mov, [.const (.int .i64 0)], none⟩] false)
        (.seq (.seq (.ops [
          ⟨(some 14), .mov, [.const (.int .i64 1)], none⟩] false)
        (.block 6
          (.loop
            (.seq (.seq (.ops [
              ⟨(some 74), .mov, [.tmp 14], none⟩,
              ⟨(some 75), .mov, [.tmp 9], none⟩,
              ⟨(some 76), .len, [.tmp 75], none⟩,
              ⟨(some 77), .cmp .lss, [.tmp 74, .tmp 76], none⟩] false)
            (.cond (.tmp 77)
              .skip
              (.exit 6)))
            (.seq (.block 7
              (.seq (.ops [
                ⟨(some 80), .mov, [.tmp 9], none⟩,
                ⟨(some 81), .mov, [.tmp 14], none⟩,
                ⟨(some 82), .idx 1, [.tmp 80, .tmp 81], none⟩,
                ⟨(some 83), .load 1 false, [.tmp 82], none⟩,
                ⟨(some 84), .mov, [.tmp 9], none⟩,
                ⟨(some 85), .mov, [.tmp 13], none⟩,
                ⟨(some 86), .idx 1, [.tmp 84, .tmp 85], none⟩,
                ⟨(some 87), .load 1 false, [.tmp 86], none⟩,
                ⟨(some 88), .cmp .gtr, [.tmp 83, .tmp 87], none⟩] true)
              (.cond (.tmp 88)
                (.ops [
                  ⟨(some 89), .mov, [.tmp 14], none⟩,
                  ⟨(some 13), .mov, [.tmp 89], none⟩] false)
                .skip)))
            (.ops [
              ⟨(some 78), .mov, [.tmp 14], none⟩,
              ⟨(some 79), .bin .add .i64 false, [.tmp 78, .const (.int .i64 1)], none⟩,
              ⟨(some 14), .mov, [.tmp 79], none⟩] false))))))
        (.seq (.ops [
          ⟨(some 90), .mov, [.tmp 8], none⟩,
          ⟨(some 91), .mov, [.tmp 13], none⟩,
          ⟨(some 92), .idx 1, [.tmp 90, .tmp 91], none⟩,
          ⟨(some 93), .load 1 false, [.tmp 92], none⟩,
          ⟨(some 94), .bin .add .i64 false, [.tmp 93, .const (.int .i64 1)], none⟩,
          ⟨(some 95), .idx 1, [.tmp 90, .tmp 91], none⟩,
          ⟨none, .store 1, [.tmp 95, .tmp 94], none⟩] false)
        (.ops [
          ⟨(some 96), .mov, [.tmp 9], none⟩,
          ⟨(some 97), .mov, [.tmp 13], none⟩,
          ⟨(some 98), .idx 1, [.tmp 96, .tmp 97], none⟩,
          ⟨none, .store 1, [.tmp 98, .const (.int .i64 (-1))], none⟩] false))))))))
  (.seq (.ops [
    ⟨(some 99), .mov, [.tmp 8], none⟩,
    ⟨(some 4), .mov, [.tmp 99], none⟩,
    ⟨(some 5), .mov, [.const (.int .i64 0)], none⟩] false)
  .ret))))))))))⟩
theorem rsplitLow : lowF Try.prog { owns := [(8, 3), (9, 3)] } Try.f35 = some rsplitIr := by kernel_rfl
def rsplitS : Spec := spec (Int × List Int) (fun p => [I p.1, L 1 (p.2.map e1)]) (fun p => p.2.length ≤ 1000000) (fun p => splT p.1 p.2)
theorem rsplitV : fnV Try.prog rsplitIr rsplitS := by
  intro ⟨(a : Int), (ws : List Int)⟩ hx
  replace hx : ws.length ≤ 1000000 := hx
  have hl : (ws.map e1).length = ws.length := List.length_map ..
  show vc _ _ _ _ ⟨argEnv 0 [I a, L 1 (ws.map e1)], [], 0⟩
  by_cases h8 : 64 < ws.length
  · have hc : chkF a ws = 4 := if_pos h8
    repeat' ((conv => whnf); first | (refine ⟨fun h => ?_, fun h => ?_⟩ <;> try (exfalso; first | omega | exact absurd h (by decide) | exact h rfl)) | fail | fail)
    all_goals (refine ⟨[], rfl, trivial, ?_⟩; show leR _ (splT a ws); unfold splT; rw [hc]; exact ⟨rfl, rfl, trivial⟩)
  by_cases ha : a < 0 ∨ 1099511627776 < a
  · have hc : chkF a ws = 2 := by unfold chkF; rw [if_neg h8, if_pos ha]
    repeat' ((conv => whnf); first | (refine ⟨fun h => ?_, fun h => ?_⟩ <;> try (exfalso; first | omega | exact absurd h (by decide) | exact h rfl)) | fail | fail)
    all_goals (refine ⟨[], rfl, trivial, ?_⟩; show leR _ (splT a ws); unfold splT; rw [hc]; exact ⟨rfl, rfl, trivial⟩)
  repeat' ((conv => whnf); first | (refine ⟨fun h => ?_, fun h => ?_⟩ <;> try (exfalso; first | omega | exact absurd h (by decide) | exact h rfl)) | fail | fail)
  refine ⟨Nat, fun xq => ⟨[(0, I a), (1, L 1 (ws.map e1)), (6, I xq)], [], 0⟩, fun xq => xq ≤ ws.length ∧ ∀ w ∈ ws.take xq, okW w, fun xq => ws.length - xq, ⟨0, ?_, [], ⟨⟨rfl, rfl⟩, ⟨⟨rfl, rfl⟩, ⟨⟨rfl, rfl⟩, trivial⟩⟩⟩, trivial, rfl, rfl, rfl⟩, ?_⟩
  · (try dsimp only); exact ⟨Nat.zero_le _, by simp⟩
  rintro k hk
  obtain ⟨hk, hn⟩ : k ≤ ws.length ∧ ∀ w ∈ ws.take k, okW w := hk
  (try dsimp only)
  by_cases hkl : k < ws.length
  · obtain ⟨x, hx⟩ := getElem_some hkl
    by_cases hw : okW x
    · have hw' := hw
      unfold okW at hw'
      repeat' ((conv => whnf); first | (refine ⟨k + 1, ⟨?_, by (try dsimp only); omega⟩, [], ⟨⟨rfl, rfl⟩, ⟨⟨rfl, rfl⟩, ⟨⟨rfl, rfl⟩, trivial⟩⟩⟩, trivial, rfl, rfl, rfl⟩; (try dsimp only); exact ⟨by omega, fun y hy => by rw [take_snoc ws k x hx] at hy; rcases List.mem_append.1 hy with h | h; exact hn y h; rw [List.mem_singleton] at h; subst h; exact hw⟩) | (refine ⟨fun h => ?_, fun h => ?_⟩ <;> try (exfalso; first | omega | exact absurd h (by decide) | exact h rfl)) | (refine ⟨by omega, fun r hrr => ?_⟩; obtain rfl := get_row hrr hx) | refine ⟨⟨by omega, by omega⟩, ?_⟩ | fail)
    · have hw' := hw
      unfold okW at hw'
      have hc : chkF a ws = 2 := by unfold chkF; rw [if_neg h8, if_neg ha, if_neg fun h => hw (h x (List.mem_of_getElem? hx))]
      repeat' ((conv => whnf); first | (refine ⟨fun h => ?_, fun h => ?_⟩ <;> try (exfalso; first | omega | exact absurd h (by decide) | exact h rfl)) | (refine ⟨by omega, fun r hrr => ?_⟩; obtain rfl := get_row hrr hx) | fail | fail)
      all_goals (refine ⟨[], rfl, trivial, ?_⟩; show leR _ (splT a ws); unfold splT; rw [hc]; exact ⟨rfl, rfl, trivial⟩)
  · rw [take_end hkl] at hn
    obtain ⟨t0, t1⟩ := sum_ok hn
    have hsw : ws.length ≤ 1000000 ∧ ∀ x ∈ ws, -2199023255552 ≤ x ∧ x ≤ 2199023255552 := ⟨by omega, fun x hx => by have := hn x hx; unfold okW at this; omega⟩
    by_cases h0 : ws.sum = 0
    · have hc : chkF a ws = 1 := by unfold chkF; rw [if_neg h8, if_neg ha, if_pos hn, if_pos h0]
      repeat' ((conv => whnf); first | (refine ⟨fun h => ?_, fun h => ?_⟩ <;> try (exfalso; first | omega | exact absurd h (by decide) | exact h rfl)) | (refine ⟨_, sum_h, ws, hsw, leVs_of_eq rfl, .inl rfl, rfl, ?_⟩; show norm (I ws.sum) _) | fail | fail)
      all_goals (refine ⟨[], rfl, trivial, ?_⟩; show leR _ (splT a ws); unfold splT; rw [hc]; exact ⟨rfl, rfl, trivial⟩)
    · have hc : chkF a ws = 0 := by unfold chkF; rw [if_neg h8, if_neg ha, if_pos hn, if_neg h0]
      have g := good_of hc
      repeat' ((conv => whnf); first | (refine ⟨fun h => ?_, fun h => ?_⟩ <;> try (exfalso; first | omega | exact absurd h (by decide) | exact h rfl)) | (refine ⟨_, sum_h, ws, hsw, leVs_of_eq rfl, .inl rfl, rfl, ?_⟩; show norm (I ws.sum) _) | fail | fail)
      refine ⟨Nat × (List (List CV)) × (List (List CV)), fun xq => ⟨[(0, I a), (1, L 1 (ws.map e1)), (7, I ws.sum), (8, .osl 0), (9, .osl 1), (10, I xq.1)], [(0, .row 3 1 xq.2.1), (1, .row 3 1 xq.2.2)], 2⟩, fun xq => xq.1 ≤ ws.length ∧ xq.2.1 = ((qL a ws).take xq.1).map e1 ∧ xq.2.2 = ((rL a ws).take xq.1).map e1, fun xq => ws.length - xq.1, ⟨(0, _, _), ?_, [(0, 0), (1, 1)], ⟨⟨rfl, rfl⟩, ⟨⟨rfl, rfl⟩, ⟨⟨rfl, rfl⟩, ⟨⟨rfl, rfl⟩, ⟨⟨rfl, rfl⟩, ⟨⟨rfl, rfl⟩, trivial⟩⟩⟩⟩⟩⟩, ⟨⟨rfl, rfl, rfl⟩, ⟨⟨rfl, rfl, rfl⟩, trivial⟩⟩, rfl, rfl, rfl⟩, ?_⟩
      · (try dsimp only); exact ⟨Nat.zero_le _, rfl, rfl⟩
      rintro ⟨k, ps, rs⟩ hk
      obtain ⟨hk, rfl, rfl⟩ : k ≤ ws.length ∧ ps = ((qL a ws).take k).map e1 ∧ rs = ((rL a ws).take k).map e1 := hk
      (try dsimp only)
      have hlq : (((qL a ws).take k).map e1).length = k := by rw [List.length_map, List.length_take, qL_len]; omega
      have hlr : (((rL a ws).take k).map e1).length = k := by rw [List.length_map, List.length_take, rL_len]; omega
      by_cases hkl : k < ws.length
      · obtain ⟨w, hw⟩ := getElem_some hkl
        obtain ⟨w0, w1⟩ := g.wOk w (List.mem_of_getElem? hw)
        have hws := le_sum (fun w hw => (g.wOk w hw).1) w (List.mem_of_getElem? hw)
        have hs0 := g.s0
        have hs1 := g.s1
        have ha0 := g.a0
        have ha1 := g.a1
        repeat' ((conv => whnf); first | (refine ⟨fun h => ?_, fun h => ?_⟩ <;> try (exfalso; first | omega | exact absurd h (by decide) | exact h rfl)) | (refine ⟨_, quo_h, (a, w, ws.sum), (by show (0 ≤ a ∧ a ≤ 1099511627776) ∧ (0 ≤ w ∧ w ≤ 1000000000) ∧ (1 ≤ ws.sum ∧ ws.sum ≤ 64000000000) ∧ w ≤ ws.sum; omega), leVs_of_eq rfl, .inl rfl, rfl, ?_⟩; show norm (.tup [I (a * w / ws.sum), I (a * w % ws.sum)]) _) | (refine ⟨(k + 1, _, _), ⟨?_, by (try dsimp only); omega⟩, [(0, 2), (1, 3)], ⟨⟨rfl, rfl⟩, ⟨⟨rfl, rfl⟩, ⟨⟨rfl, rfl⟩, ⟨⟨rfl, rfl⟩, ⟨⟨rfl, rfl⟩, ⟨⟨rfl, rfl⟩, trivial⟩⟩⟩⟩⟩⟩, ⟨⟨rfl, rfl, rfl⟩, ⟨⟨rfl, rfl, rfl⟩, trivial⟩⟩, rfl, rfl, rfl⟩; (try dsimp only); exact ⟨by omega, by rw [take_snoc _ k _ (qL_get hw), List.map_append]; rfl, by rw [take_snoc _ k _ (rL_get hw), List.map_append]; rfl⟩) | (refine ⟨by omega, fun r hrr => ?_⟩; (have hre : r = e1 w := by (first | exact get_row hrr hw | fail)); subst hre) | refine ⟨⟨by omega, by omega⟩, ?_⟩ | (refine ⟨⟨by simp only [List.length_cons, List.length_nil]; omega, by simp only [List.length_cons, List.length_nil]; omega⟩, ?_⟩) | fail)
      · rw [List.take_of_length_le (by rw [qL_len]; omega), List.take_of_length_le (by rw [rL_len]; omega)]
        repeat' ((conv => whnf); first | (refine ⟨fun h => ?_, fun h => ?_⟩ <;> try (exfalso; first | omega | exact absurd h (by decide) | exact h rfl)) | fail | fail)
        clear hk hkl hlq hlr
        obtain ⟨hle, hlt⟩ := g.left
        refine ⟨Nat × (List (List CV)) × (List (List CV)), fun xq => ⟨[(0, I a), (8, .osl 0), (9, .osl 1)], [(0, .row 3 1 xq.2.1), (1, .row 3 1 xq.2.2)], 2⟩, fun xq => xq.1 ≤ leftN a ws ∧ xq.2.1 = (incs (qL a ws) ((ordL (rL a ws)).take xq.1)).map e1 ∧ xq.2.2 = (marks (rL a ws) ((ordL (rL a ws)).take xq.1)).map e1, fun xq => leftN a ws - xq.1, ⟨(0, _, _), ?_, [], ⟨⟨rfl, rfl⟩, ⟨⟨rfl, rfl⟩, ⟨⟨rfl, rfl⟩, trivial⟩⟩⟩, ⟨⟨rfl, rfl, rfl⟩, ⟨⟨rfl, rfl, rfl⟩, trivial⟩⟩, rfl, rfl, rfl⟩, ?_⟩
        · (try dsimp only); exact ⟨Nat.zero_le _, rfl, rfl⟩
        rintro ⟨m, ps, rs⟩ hk
        obtain ⟨hm, rfl, rfl⟩ : m ≤ leftN a ws ∧ ps = (incs (qL a ws) ((ordL (rL a ws)).take m)).map e1 ∧ rs = (marks (rL a ws) ((ordL (rL a ws)).take m)).map e1 := hk
        (try dsimp only)
        have hnn : ∀ i ∈ (ordL (rL a ws)).take m, ∃ c : Nat, c < ws.length ∧ i = c := fun i hi => by have := ordL_mem (List.mem_of_mem_take hi); rw [rL_len] at this; exact this
        have hnd : ((ordL (rL a ws)).take m).Nodup := (ordL_nodup _).sublist (List.take_sublist _ _)
        have hn0 : ∀ i ∈ (ordL (rL a ws)).take m, 0 ≤ i := fun i hi => by obtain ⟨c, _, rfl⟩ := hnn i hi; omega
        have hpre := g.incsB hnd hn0
        have hsum : (incs (qL a ws) ((ordL (rL a ws)).take m)).sum = (qL a ws).sum + m := by rw [incs_sum _ _ fun i hi => by rw [qL_len]; exact hnn i hi, List.length_take, ordL_len, rL_len]; omega
        have hlm : (marks (rL a ws) ((ordL (rL a ws)).take m)).length = ws.length := by rw [marks_len, rL_len]
        have hlm1 : ((marks (rL a ws) ((ordL (rL a ws)).take m)).map e1).length = ws.length := by rw [List.length_map, hlm]
        have hlq1 : ((incs (qL a ws) ((ordL (rL a ws)).take m)).map e1).length = ws.length := by rw [List.length_map, incs_len, qL_len]
        by_cases hml : m < leftN a ws
        · repeat' ((conv => whnf); first | (refine ⟨fun h => ?_, fun h => ?_⟩ <;> try (exfalso; first | omega | exact absurd h (by decide) | exact h rfl)) | (refine ⟨_, sum_h, (incs (qL a ws) ((ordL (rL a ws)).take m)), hpre, leVs_of_eq rfl, .inr rfl, rfl, ?_⟩; show norm (I (incs (qL a ws) ((ordL (rL a ws)).take m)).sum) _; rw [hsum]) | fail | fail)
          refine ⟨Nat × Nat, fun xq => ⟨[(0, I a), (8, .osl 0), (9, .osl 1), (13, I xq.1), (14, I xq.2)], [(0, .row 3 1 ((incs (qL a ws) ((ordL (rL a ws)).take m)).map e1)), (1, .row 3 1 ((marks (rL a ws) ((ordL (rL a ws)).take m)).map e1))], 2⟩, fun xq => (1 ≤ xq.2 ∧ xq.2 ≤ ws.length) ∧ xq.1 < xq.2 ∧ IsBest (marks (rL a ws) ((ordL (rL a ws)).take m)) xq.1 xq.2, fun xq => ws.length - xq.2, ⟨(0, 1), ?_, [], ⟨⟨rfl, rfl⟩, ⟨⟨rfl, rfl⟩, ⟨⟨rfl, rfl⟩, ⟨⟨rfl, rfl⟩, ⟨⟨rfl, rfl⟩, trivial⟩⟩⟩⟩⟩, ⟨⟨rfl, rfl, rfl⟩, ⟨⟨rfl, rfl, rfl⟩, trivial⟩⟩, rfl, rfl, rfl⟩, ?_⟩
          · (try dsimp only); exact ⟨⟨Nat.le_refl _, by omega⟩, Nat.zero_lt_one, best_start (by rw [hlm]; omega)⟩
          rintro ⟨b, i⟩ hk
          obtain ⟨⟨i0, i1⟩, hbi, hbest⟩ : (1 ≤ i ∧ i ≤ ws.length) ∧ b < i ∧ IsBest (marks (rL a ws) ((ordL (rL a ws)).take m)) b i := hk
          (try dsimp only)
          obtain ⟨y, hy⟩ := getElem_some (xs := (marks (rL a ws) ((ordL (rL a ws)).take m))) (k := b) (by rw [hlm]; omega)
          have gy : ((marks (rL a ws) ((ordL (rL a ws)).take m)).map e1)[(b : Int).toNat]? = some [.int .i64 y] := get_e1 hy
          by_cases hil : i < ws.length
          · obtain ⟨x, hx⟩ := getElem_some (xs := (marks (rL a ws) ((ordL (rL a ws)).take m))) (k := i) (by rw [hlm]; omega)
            have gx : ((marks (rL a ws) ((ordL (rL a ws)).take m)).map e1)[(i : Int).toNat]? = some [.int .i64 x] := get_e1 hx
            by_cases hxy : y < x
            · repeat' ((conv => whnf); first | (refine ⟨fun h => ?_, fun h => ?_⟩ <;> try (exfalso; first | omega | exact absurd h (by decide) | exact h rfl)) | refine get_at gx ?_ | refine get_at gy ?_ | (refine ⟨(_, i + 1), ⟨?_, by (try dsimp only); omega⟩, [], ⟨⟨rfl, rfl⟩, ⟨⟨rfl, rfl⟩, ⟨⟨rfl, rfl⟩, ⟨⟨rfl, rfl⟩, ⟨⟨rfl, rfl⟩, trivial⟩⟩⟩⟩⟩, ⟨⟨rfl, rfl, rfl⟩, ⟨⟨rfl, rfl, rfl⟩, trivial⟩⟩, rfl, rfl, rfl⟩; (try dsimp only); exact ⟨⟨by omega, by omega⟩, by omega, best_up hbest hx hy hxy⟩) | refine ⟨⟨by omega, by omega⟩, ?_⟩ | fail)
            · repeat' ((conv => whnf); first | (refine ⟨fun h => ?_, fun h => ?_⟩ <;> try (exfalso; first | omega | exact absurd h (by decide) | exact h rfl)) | refine get_at gx ?_ | refine get_at gy ?_ | (refine ⟨(_, i + 1), ⟨?_, by (try dsimp only); omega⟩, [], ⟨⟨rfl, rfl⟩, ⟨⟨rfl, rfl⟩, ⟨⟨rfl, rfl⟩, ⟨⟨rfl, rfl⟩, ⟨⟨rfl, rfl⟩, trivial⟩⟩⟩⟩⟩, ⟨⟨rfl, rfl, rfl⟩, ⟨⟨rfl, rfl, rfl⟩, trivial⟩⟩, rfl, rfl, rfl⟩; (try dsimp only); exact ⟨⟨by omega, by omega⟩, by omega, best_stay hbest hbi hx hy hxy⟩) | refine ⟨⟨by omega, by omega⟩, ?_⟩ | fail)
          · have hin : i = ws.length := by omega
            subst hin
            have hb := best_next (rL_len a ws) (fun x hx => by obtain ⟨w, _, rfl⟩ := List.mem_map.1 hx; exact (g.r w).1) (by omega) hbest
            obtain ⟨v, hv, v0, v1⟩ := g.incB hnd hn0 (c := b) hbi
            have gv : ((incs (qL a ws) ((ordL (rL a ws)).take m)).map e1)[(b : Int).toNat]? = some [.int .i64 v] := get_e1 hv
            have hps : ((incs (qL a ws) ((ordL (rL a ws)).take m)).map e1).set (b : Int).toNat [.int .i64 (v + 1)] = (incs (qL a ws) ((ordL (rL a ws)).take (m + 1))).map e1 := by rw [map_set1, Int.toNat_natCast, take_snoc _ m _ hb, incs_snoc, incr_eq hv]
            have hrs : ((marks (rL a ws) ((ordL (rL a ws)).take m)).map e1).set (b : Int).toNat [.int .i64 (-1)] = (marks (rL a ws) ((ordL (rL a ws)).take (m + 1))).map e1 := by rw [map_set1, take_snoc _ m _ hb, marks_snoc]
            repeat' ((conv => whnf); first | (refine ⟨fun h => ?_, fun h => ?_⟩ <;> try (exfalso; first | omega | exact absurd h (by decide) | exact h rfl)) | refine get_at gv ?_ | refine get_at gy ?_ | (refine ⟨(m + 1, _, _), ⟨?_, by (try dsimp only); omega⟩, [], ⟨⟨rfl, rfl⟩, ⟨⟨rfl, rfl⟩, ⟨⟨rfl, rfl⟩, trivial⟩⟩⟩, ⟨⟨rfl, rfl, rfl⟩, ⟨⟨rfl, rfl, rfl⟩, trivial⟩⟩, rfl, rfl, rfl⟩; (try dsimp only); exact ⟨by omega, hps, hrs⟩) | refine ⟨⟨by omega, by omega⟩, ?_⟩ | fail)
        · have hmm : m = leftN a ws := by omega
          subst hmm
          repeat' ((conv => whnf); first | (refine ⟨fun h => ?_, fun h => ?_⟩ <;> try (exfalso; first | omega | exact absurd h (by decide) | exact h rfl)) | (refine ⟨_, sum_h, (incs (qL a ws) ((ordL (rL a ws)).take (leftN a ws))), hpre, leVs_of_eq rfl, .inr rfl, rfl, ?_⟩; show norm (I (incs (qL a ws) ((ordL (rL a ws)).take (leftN a ws))).sum) _; rw [hsum]) | fail | fail)
          all_goals (refine ⟨[], rfl, trivial, ?_⟩; show leR _ (splT a ws); unfold splT; rw [if_pos hc, hc]; exact ⟨rfl, rfl, trivial⟩)
theorem rsplit_h : Holds Try.prog 35 rsplitS := holds_of mix Try.func35 rsplitLow (fun _ => rfl) rsplitV

end Go.Proofs.Ytbglmocgijlomaa

/- Sums of shares: plain. No program in sight. -/
namespace Go.Proofs.Ytbglmocgijlomaa
open Go.RowKit

/-- What an operator has in a list of shares. -/
def amt (p : List Share) (o : Int) : Int := (p.map fun x => if x.o = o then x.a else 0).sum
theorem amt_snoc (p : List Share) (x : Share) (o : Int) : amt (p ++ [x]) o = if o = x.o then amt p o + x.a else amt p o := by
  simp only [amt, List.map_append, List.sum_append, List.map_cons, List.map_nil, List.sum_cons, List.sum_nil]
  by_cases h : o = x.o
  · rw [if_pos h, if_pos h.symm]; omega
  · rw [if_neg h, if_neg (fun e => h e.symm)]; omega
theorem amt_out {p : List Share} {o : Int} (h : o ∉ p.map (·.o)) : amt p o = 0 := by
  induction p with
  | nil => rfl
  | cons x r ih =>
    simp only [List.map_cons, List.mem_cons, not_or] at h
    have := ih h.2
    simp only [amt, List.map_cons, List.sum_cons] at this ⊢
    rw [if_neg (fun e => h.1 e.symm)]; omega
/-- Whether all sums stay within the bounds. -/
def addO : List Share → List Share → Bool
  | _, [] => true
  | p, x :: r => match plusF (amt p x.o) x.a with
    | none => false
    | some _ => addO (p ++ [x]) r
def insK (o : Int) : List Int → List Int
  | [] => [o]
  | y :: r => if o < y then o :: y :: r else if o = y then y :: r else y :: insK o r
def keysL (p : List Share) : List Int := p.foldl (fun l x => insK x.o l) []
theorem keysL_snoc (p : List Share) (x : Share) : keysL (p ++ [x]) = insK x.o (keysL p) := by simp [keysL]
theorem insK_mem (o : Int) : ∀ (l : List Int) (z : Int), z ∈ insK o l ↔ z = o ∨ z ∈ l
  | [], z => by simp [insK]
  | y :: r, z => by
    rw [insK]
    split
    · simp
    · split
      · rename_i h; subst h; simp
      · simp only [List.mem_cons, insK_mem o r z]
        exact ⟨fun h => by rcases h with h | h | h <;> simp [h], fun h => by rcases h with h | h | h <;> simp [h]⟩
theorem insK_sorted (o : Int) : ∀ {l : List Int}, l.Pairwise (· < ·) → (insK o l).Pairwise (· < ·)
  | [], _ => List.pairwise_singleton _ _
  | y :: r, h => by
    obtain ⟨h1, h2⟩ := List.pairwise_cons.1 h
    rw [insK]
    split
    · refine List.pairwise_cons.2 ⟨fun z hz => ?_, h⟩
      rcases List.mem_cons.1 hz with rfl | hz
      · assumption
      · have := h1 z hz; omega
    · split
      · exact h
      · refine List.pairwise_cons.2 ⟨fun z hz => ?_, insK_sorted o h2⟩
        rcases (insK_mem o r z).1 hz with rfl | hz
        · omega
        · exact h1 z hz
theorem insK_split {o : Int} {A B : List Int} (hA : ∀ z ∈ A, z < o) (hB : ∀ z ∈ B, o < z) : insK o (A ++ B) = A ++ o :: B := by
  induction A with
  | nil =>
    cases B with
    | nil => rfl
    | cons y r => rw [List.nil_append, insK, if_pos (hB y (by simp))]; rfl
  | cons y r ih =>
    have h := hA y (by simp)
    rw [List.cons_append, insK, if_neg (by omega), if_neg (by omega), ih (fun z hz => hA z (by simp [hz]))]; rfl
theorem insK_same {o : Int} {A B : List Int} (hA : ∀ z ∈ A, z < o) : insK o (A ++ o :: B) = A ++ o :: B := by
  induction A with
  | nil => rw [List.nil_append, insK, if_neg (by omega), if_pos rfl]
  | cons y r ih =>
    have h := hA y (by simp)
    rw [List.cons_append, insK, if_neg (by omega), if_neg (by omega), ih (fun z hz => hA z (by simp [hz]))]
theorem keysL_spec (p : List Share) : (keysL p).Pairwise (· < ·) ∧ ∀ o, o ∈ keysL p ↔ o ∈ p.map (·.o) := by
  have h : ∀ (p : List Share) (l : List Int), l.Pairwise (· < ·) → (p.foldl (fun l x => insK x.o l) l).Pairwise (· < ·) ∧ ∀ o, o ∈ p.foldl (fun l x => insK x.o l) l ↔ o ∈ l ∨ o ∈ p.map (·.o) := by
    intro p
    induction p with
    | nil => intro l hl; exact ⟨hl, fun o => by simp⟩
    | cons x r ih =>
      intro l hl
      obtain ⟨h1, h2⟩ := ih (insK x.o l) (insK_sorted _ hl)
      refine ⟨h1, fun o => ?_⟩
      rw [List.foldl_cons, h2, insK_mem, List.map_cons, List.mem_cons]
      exact ⟨fun h => by rcases h with (h | h) | h <;> simp [h], fun h => by rcases h with h | h | h <;> simp [h]⟩
  obtain ⟨h1, h2⟩ := h p [] .nil
  exact ⟨h1, fun o => by rw [keysL, h2]; simp⟩
theorem keysL_len : ∀ p : List Share, (keysL p).length ≤ p.length := by
  have h : ∀ (o : Int) (l : List Int), (insK o l).length ≤ l.length + 1 := by
    intro o l
    induction l with
    | nil => simp [insK]
    | cons y r ih => rw [insK]; (repeat' split) <;> simp only [List.length_cons] <;> omega
  have h2 : ∀ (p : List Share) (l : List Int), (p.foldl (fun l x => insK x.o l) l).length ≤ l.length + p.length := by
    intro p
    induction p with
    | nil => intro l; simp
    | cons x r ih => intro l; have := ih (insK x.o l); have := h x.o l; simp only [List.foldl_cons, List.length_cons]; omega
  intro p
  have := h2 p []
  simpa [keysL] using this
/-- Two lists in order with the same members are one. -/
theorem lt_uniq {a b : List Int} (ha : a.Pairwise (· < ·)) (hb : b.Pairwise (· < ·)) (h : ∀ z, z ∈ a ↔ z ∈ b) : a = b := by
  have na : a.Nodup := ha.imp fun h => by omega
  have nb : b.Nodup := hb.imp fun h => by omega
  exact List.Perm.eq_of_pairwise (fun x y _ _ h1 h2 => by omega) ha hb ((List.perm_ext_iff_of_nodup na nb).2 h)
theorem sorted_keys {p : List Share} {ks : List Int} (hn : ks.Nodup) (hm : ∀ o, o ∈ ks ↔ o ∈ p.map (·.o)) : keysL p = ks.mergeSort Go.leI := by
  obtain ⟨h1, h2⟩ := keysL_spec p
  have hp := List.mergeSort_perm ks Go.leI
  have hs : (ks.mergeSort Go.leI).Pairwise fun x y => Go.leI x y = true := List.pairwise_mergeSort
    (fun a b c h1 h2 => by simp only [Go.leI, decide_eq_true_eq] at *; omega)
    (fun a b => by simp only [Go.leI, Bool.or_eq_true, decide_eq_true_eq]; omega) _
  have hnd : (ks.mergeSort Go.leI).Nodup := hp.nodup_iff.2 hn
  refine lt_uniq h1 ((hs.and hnd).imp fun {a b} h => ?_) fun z => by rw [h2, hp.mem_iff, hm]
  have h1 := h.1
  have h2 := h.2
  simp only [Go.leI, decide_eq_true_eq] at h1
  omega
def tabL (p : List Share) : List Share := (keysL p).map fun o => ⟨o, amt p o⟩
def fewL (p : List Share) : List Share := (tabL p).filter fun x => decide (x.a ≠ 0)

/-! ### the map of sums -/
def kvOf (f : Int → Int) (ks : List Int) : List (List Int × List CV) := ks.map fun o => ([o], [CV.int .i64 (f o)])
def updF (f : Int → Int) (o v : Int) : Int → Int := fun z => if z = o then v else f z
theorem find_in {f : Int → Int} {o : Int} : ∀ {ks : List Int}, o ∈ ks → findKV [o] (kvOf f ks) = some [CV.int .i64 (f o)]
  | [], h => by simp at h
  | y :: r, h => by
    rw [kvOf, List.map_cons, findKV]
    by_cases e : o = y
    · rw [if_pos (by rw [e]), e]
    · rw [if_neg (by intro h; simp at h; exact e h)]
      exact find_in (by rcases List.mem_cons.1 h with h | h; exact absurd h e; exact h)
theorem find_out {f : Int → Int} {o : Int} : ∀ {ks : List Int}, o ∉ ks → findKV [o] (kvOf f ks) = none
  | [], _ => rfl
  | y :: r, h => by
    rw [kvOf, List.map_cons, findKV, if_neg (by intro e; simp at e; exact h (by simp [e]))]
    exact find_out fun e => h (by simp [e])
theorem kv_ext {f g : Int → Int} {ks : List Int} (h : ∀ o ∈ ks, f o = g o) : kvOf f ks = kvOf g ks := List.map_congr_left fun o ho => by rw [h o ho]
theorem set_in {f : Int → Int} {o v : Int} : ∀ {ks : List Int}, o ∈ ks → ks.Nodup → setKV [o] [CV.int .i64 v] (kvOf f ks) = kvOf (updF f o v) ks
  | [], h, _ => by simp at h
  | y :: r, h, hn => by
    obtain ⟨h1, h2⟩ := List.nodup_cons.1 hn
    rw [kvOf, List.map_cons, setKV]
    by_cases e : o = y
    · subst e
      rw [if_pos rfl, kvOf, List.map_cons]
      have : updF f o v o = v := by simp [updF]
      rw [this]
      congr 1
      exact (kv_ext fun z hz => by simp only [updF]; rw [if_neg]; rintro rfl; exact h1 hz).symm
    · rw [if_neg (by intro h; simp at h; exact e h)]
      have hr : o ∈ r := by rcases List.mem_cons.1 h with h | h; exact absurd h e; exact h
      have ih := set_in (f := f) (v := v) hr h2
      rw [kvOf] at ih
      rw [ih]
      have : updF f o v y = f y := by simp only [updF]; rw [if_neg (fun h => e h.symm)]
      rw [kvOf, kvOf, List.map_cons, this]
theorem set_out {f : Int → Int} {o v : Int} : ∀ {ks : List Int}, o ∉ ks → setKV [o] [CV.int .i64 v] (kvOf f ks) = kvOf (updF f o v) (ks ++ [o])
  | [], _ => by simp [kvOf, setKV, updF]
  | y :: r, h => by
    rw [kvOf, List.map_cons, setKV, if_neg (by intro e; simp at e; exact h (by simp [e]))]
    have ih := set_out (f := f) (v := v) (o := o) (ks := r) fun e => h (List.mem_cons_of_mem _ e)
    rw [kvOf] at ih
    rw [ih]
    have : updF f o v y = f y := by simp only [updF]; rw [if_neg]; rintro rfl; exact h (by simp)
    rw [kvOf, kvOf, List.cons_append, List.map_cons, this]
theorem look_kv {f : Int → Int} {ks : List Int} {o : Int} (h0 : o ∉ ks → f o = 0) {K : SV → Prop} (hK : K (.c (.int .i64 (f o)))) : (∀ l, findKV [o] (kvOf f ks) = some l → gotV false false l true K) ∧ (findKV [o] (kvOf f ks) = none → gotV false false [.int .i64 0] false K) := by
  by_cases h : o ∈ ks
  · refine ⟨fun l hl => ?_, fun e => by rw [find_in h] at e; cases e⟩
    rw [find_in h] at hl; cases hl; exact hK
  · refine ⟨fun l hl => (by rw [find_out h] at hl; cases hl), fun _ => ?_⟩
    rw [h0 h] at hK; exact hK
/-- What the map of sums holds behind the shares p. -/
structure Sums (p : List Share) (ks : List Int) : Prop where
  nd : ks.Nodup
  mem : ∀ o, o ∈ ks ↔ o ∈ p.map (·.o)
  bnd : ∀ o, -1099511627776 ≤ amt p o ∧ amt p o ≤ 1099511627776
  len : ks.length ≤ p.length
theorem Sums.nil : Sums [] [] := ⟨.nil, fun o => by simp, fun o => by simp [amt], by simp⟩
theorem Sums.zero {p : List Share} {ks : List Int} (h : Sums p ks) {o : Int} (hn : o ∉ ks) : amt p o = 0 := amt_out fun e => hn ((h.mem o).2 e)
theorem Sums.step {p : List Share} {ks : List Int} (h : Sums p ks) {x : Share} {t : Int} (hp : plusF (amt p x.o) x.a = some t) : ∃ ks', Sums (p ++ [x]) ks' ∧ setKV [x.o] [CV.int .i64 t] (kvOf (amt p) ks) = kvOf (amt (p ++ [x])) ks' := by
  have hb := plusF_bnd hp
  have ht : t = amt p x.o + x.a := by
    unfold plusF at hp
    split at hp
    · cases hp
    · cases hp; rfl
  have hu : updF (amt p) x.o t = amt (p ++ [x]) := by
    funext o
    rw [amt_snoc, updF, ht]
    by_cases e : o = x.o
    · rw [if_pos e, if_pos e, e]
    · rw [if_neg e, if_neg e]
  have hbn : ∀ o, -1099511627776 ≤ amt (p ++ [x]) o ∧ amt (p ++ [x]) o ≤ 1099511627776 := by
    intro o
    rw [amt_snoc]
    have := h.bnd o
    split
    · rename_i e; subst e; omega
    · exact this
  by_cases hk : x.o ∈ ks
  · refine ⟨ks, ⟨h.nd, fun o => ?_, hbn, by have := h.len; simp; omega⟩, by rw [set_in hk h.nd, hu]⟩
    rw [h.mem, List.map_append, List.mem_append]
    refine ⟨.inl, fun h' => h'.elim id fun e => ?_⟩
    simp at e; rw [e]; exact (h.mem _).1 hk
  · refine ⟨ks ++ [x.o], ⟨List.nodup_append.2 ⟨h.nd, by simp, fun a ha b hb => by simp at hb; subst hb; rintro rfl; exact hk ha⟩, fun o => ?_, hbn, by have := h.len; simp; omega⟩, by rw [set_out hk, hu]⟩
    rw [List.mem_append, h.mem, List.map_append, List.mem_append]; simp
theorem addO_step {p r all : List Share} {x : Share} (h : addO p (x :: r) = addO [] all) {t : Int} (hp : plusF (amt p x.o) x.a = some t) : addO (p ++ [x]) r = addO [] all := by
  rw [← h, addO, hp]
theorem addO_bad {p r all : List Share} {x : Share} (h : addO p (x :: r) = addO [] all) (hp : plusF (amt p x.o) x.a = none) : addO [] all = false := by
  rw [← h, addO, hp]

/-! ### the reference's table -/
theorem tab_split {p : List Share} {x : Share} {A B : List Share} (h : tabL p = A ++ B) (hA : ∀ z ∈ A, z.o < x.o) (hB : ∀ z ∈ B, x.o < z.o) : tabL (p ++ [x]) = A ++ ⟨x.o, 0 + x.a⟩ :: B := by
  have hk : keysL p = A.map (·.o) ++ B.map (·.o) := by
    have := congrArg (List.map Share.o) h
    rw [tabL, List.map_map, List.map_append] at this
    have e : (keysL p).map (Share.o ∘ fun o => (⟨o, amt p o⟩ : Share)) = keysL p := List.map_id' _
    rwa [e] at this
  have hin : ∀ z ∈ A ++ B, z.a = amt p z.o := by
    intro z hz
    rw [← h] at hz
    obtain ⟨o, _, rfl⟩ := List.mem_map.1 hz
    rfl
  have hx : x.o ∉ p.map (·.o) := by
    rw [← (keysL_spec p).2, hk, List.mem_append]
    rintro (h' | h')
    · obtain ⟨z, hz, e⟩ := List.mem_map.1 h'; have := hA z hz; omega
    · obtain ⟨z, hz, e⟩ := List.mem_map.1 h'; have := hB z hz; omega
  rw [tabL, keysL_snoc, hk, insK_split (fun z hz => by obtain ⟨y, hy, rfl⟩ := List.mem_map.1 hz; exact hA y hy) (fun z hz => by obtain ⟨y, hy, rfl⟩ := List.mem_map.1 hz; exact hB y hy)]
  rw [List.map_append, List.map_cons, List.map_map, List.map_map]
  have e1 : amt (p ++ [x]) x.o = 0 + x.a := by rw [amt_snoc, if_pos rfl, amt_out hx]
  rw [e1]
  have e2 : ∀ l : List Share, (∀ z ∈ l, z ∈ A ++ B) → (∀ z ∈ l, z.o ≠ x.o) → l.map ((fun o => (⟨o, amt (p ++ [x]) o⟩ : Share)) ∘ fun z => z.o) = l := by
    intro l hl hne
    conv => rhs; rw [← List.map_id l]
    refine List.map_congr_left fun z hz => ?_
    show (⟨z.o, amt (p ++ [x]) z.o⟩ : Share) = z
    rw [amt_snoc, if_neg (hne z hz), ← hin z (hl z hz)]
  rw [e2 A (fun z hz => List.mem_append.2 (.inl hz)) (fun z hz => by have := hA z hz; omega), e2 B (fun z hz => List.mem_append.2 (.inr hz)) (fun z hz => by have := hB z hz; omega)]
theorem tab_same {p : List Share} {x y : Share} {A B : List Share} (h : tabL p = A ++ y :: B) (hA : ∀ z ∈ A, z.o < x.o) (hy : y.o = x.o) : tabL (p ++ [x]) = A ++ ⟨x.o, y.a + x.a⟩ :: B := by
  have hk : keysL p = A.map (·.o) ++ x.o :: B.map (·.o) := by
    have := congrArg (List.map Share.o) h
    rw [tabL, List.map_map, List.map_append, List.map_cons, hy] at this
    have e : (keysL p).map (Share.o ∘ fun o => (⟨o, amt p o⟩ : Share)) = keysL p := List.map_id' _
    rwa [e] at this
  have hin : ∀ z ∈ A ++ y :: B, z.a = amt p z.o := by
    intro z hz
    rw [← h] at hz
    obtain ⟨o, _, rfl⟩ := List.mem_map.1 hz
    rfl
  have hs := (keysL_spec p).1
  rw [hk] at hs
  have hB : ∀ z ∈ B, x.o < z.o := fun z hz => (List.pairwise_cons.1 (List.pairwise_append.1 hs).2.1).1 z.o (List.mem_map.2 ⟨z, hz, rfl⟩)
  rw [tabL, keysL_snoc, hk, insK_same (fun z hz => by obtain ⟨y, hy, rfl⟩ := List.mem_map.1 hz; exact hA y hy)]
  rw [List.map_append, List.map_cons, List.map_map, List.map_map]
  have e1 : amt (p ++ [x]) x.o = y.a + x.a := by rw [amt_snoc, if_pos rfl, ← hy, ← hin y (by simp)]
  rw [e1]
  have e2 : ∀ l : List Share, (∀ z ∈ l, z ∈ A ++ y :: B) → (∀ z ∈ l, z.o ≠ x.o) → l.map ((fun o => (⟨o, amt (p ++ [x]) o⟩ : Share)) ∘ fun z => z.o) = l := by
    intro l hl hne
    conv => rhs; rw [← List.map_id l]
    refine List.map_congr_left fun z hz => ?_
    show (⟨z.o, amt (p ++ [x]) z.o⟩ : Share) = z
    rw [amt_snoc, if_neg (hne z hz), ← hin z (hl z hz)]
  rw [e2 A (fun z hz => List.mem_append.2 (.inl hz)) (fun z hz => by have := hA z hz; omega), e2 B (fun z hz => by simp [hz]) (fun z hz => by have := hB z hz; omega)]
end Go.Proofs.Ytbglmocgijlomaa

/- Split: Add. -/
namespace Go.Proofs.Ytbglmocgijlomaa
open Go.RowKit

def addT (a b : List Share) : SV := .tup [L 2 ((if addO [] (a ++ b) then fewL (a ++ b) else []).map encS), I (if addO [] (a ++ b) then 0 else 12)]
def okO (x : Share) : Prop := (Lit.int .i64 x.o).wf = true
def preS (a b : List Share) : Nat → List Share
  | 0 => []
  | 1 => a
  | _ => a ++ b
def postS (a b : List Share) : Nat → List Share
  | 0 => a ++ b
  | 1 => b
  | _ => []
def fewK (p : List Share) (l : List Int) : List Share := (l.map fun o => (⟨o, amt p o⟩ : Share)).filter fun x => decide (x.a ≠ 0)
theorem fewK_all (p : List Share) : fewK p (keysL p) = fewL p := rfl
theorem fewK_no {p : List Share} {l : List Int} {k : Nat} {o : Int} (h : l[k]? = some o) (h0 : amt p o = 0) : fewK p (l.take (k + 1)) = fewK p (l.take k) := by
  rw [take_snoc l k o h, fewK, fewK, List.map_append, List.filter_append]; simp [h0]
theorem fewK_yes {p : List Share} {l : List Int} {k : Nat} {o : Int} (h : l[k]? = some o) (h0 : ¬ amt p o = 0) : fewK p (l.take (k + 1)) = fewK p (l.take k) ++ [⟨o, amt p o⟩] := by
  rw [take_snoc l k o h, fewK, fewK, List.map_append, List.filter_append]; simp [h0]
theorem fewK_len (p : List Share) (l : List Int) : (fewK p l).length ≤ l.length := by
  refine Nat.le_trans (List.length_filter_le _ _) ?_
  rw [List.length_map]; exact Nat.le_refl _
theorem kv_head (f : Int → Int) (ks : List Int) : ((kvOf f ks).map fun p => headI p.1) = ks := by
  rw [kvOf, List.map_map]; exact List.map_id' _
theorem get_share {l : List Share} {k : Nat} {x : Share} (h : l[k]? = some x) : (l.map encS)[k]? = some (encS x) := by rw [List.getElem?_map, h]; rfl

/-! skiarea/split.Add -/
def addIr : IFn := ⟨71, [.tmp 4, .tmp 5],
  (.seq (.ops [
    ⟨(some 4), .mov, [.const (.slice none 0 0)], none⟩,
    ⟨(some 5), .mov, [.const (.int .i64 0)], none⟩] false)
  (.seq (.ops [
    ⟨(some 16), .mkmap 0 false, [], none⟩,
    ⟨(some 6), .mov, [.tmp 16], none⟩] false)
  (.seq (.seq (.ops [
    ⟨(some 17), .mov, [.tmp 0], none⟩,
    ⟨(some 18), .mov, [.tmp 1], none⟩,
    ⟨(some 19), .buildSl 44 1, [.tmp 17, .tmp 18], none⟩,
    ⟨(some 20), .len, [.tmp 19], none⟩,
    ⟨(some 21), .mov, [.const (.int .i64 0)], none⟩] false)
  (.block 0
    (.loop
      (.seq (.ops [
        ⟨(some 22), .cmp .lss, [.tmp 21, .tmp 20], none⟩] false)
      (.seq (.cond (.tmp 22)
        .skip
        (.exit 0))
      (.seq (.block 1
        (.seq (.ops [
          ⟨(some 23), .idx 1, [.tmp 19, .tmp 21], none⟩,
          ⟨(some 24), .load 1 false, [.tmp 23], none⟩,
          ⟨(some 8), .mov, [.tmp 24], none⟩] false)
        (.seq (.ops [
          ⟨(some 25), .mov, [.tmp 8], none⟩,
          ⟨(some 26), .len, [.tmp 25], none⟩,
          ⟨(some 27), .mov, [.const (.int .i64 0)], none⟩] false)
        (.block 2
          (.loop
            (.seq (.ops [
              ⟨(some 28), .cmp .lss, [.tmp 27, .tmp 26], none⟩] false)
            (.seq (.cond (.tmp 28)
              .skip
              (.exit 2))
            (.seq (.block 3
              (.seq (.ops [
                ⟨(some 29), .idx 2, [.tmp 25, .tmp 27], none⟩,
                ⟨(some 30), .load 2 true, [.tmp 29], none⟩,
                ⟨(some 10), .alloc [.int .i64 0, .int .i64 0], [], none⟩,
                ⟨none, .store 2, [.tmp 10, .tmp 30], none⟩] false)
              (.seq (.ops [
                ⟨(some 32), .mov, [.tmp 6], none⟩,
                ⟨(some 33), .faddr 0, [.tmp 10], none⟩,
                ⟨(some 34), .load 1 false, [.tmp 33], none⟩,
                ⟨(some 35), .lookup [.int .i64 0] 0 false false, [.tmp 32, .tmp 34], none⟩,
                ⟨(some 36), .faddr 1, [.tmp 10], none⟩,
                ⟨(some 37), .load 1 false, [.tmp 36], none⟩,
                ⟨(some 38), .call 54, [.tmp 35, .tmp 37], none⟩,
                ⟨(some 31), .mov, [.tmp 38], none⟩,
                ⟨(some 39), .extract 0, [.tmp 31], none⟩,
                ⟨(some 40), .extract 1, [.tmp 31], none⟩,
                ⟨(some 11), .mov, [.tmp 39], none⟩,
                ⟨(some 12), .mov, [.tmp 40], none⟩] false)
              (.seq (.seq (.ops [
                ⟨(some 41), .mov, [.tmp 12], none⟩,
                ⟨(some 42), .not, [.tmp 41], none⟩] false)
              (.cond (.tmp 42)
                (.seq (.ops [
                  ⟨(some 4), .mov, [.const (.slice none 0 0)], none⟩,
                  ⟨(some 5), .mov, [.const (.int .i64 12)], none⟩] false)
                .ret)
                .skip))
              (.ops [
                ⟨(some 43), .mov, [.tmp 6], none⟩,
                ⟨(some 44), .faddr 0, [.tmp 10], none⟩,
                ⟨(some 45), .load 1 false, [.tmp 44], none⟩,
                ⟨(some 46), .mov, [.tmp 11], none⟩,
                ⟨none, .mapset 0 false, [.tmp 43, .tmp 45, .tmp 46], none⟩] false)))))
            (.ops [
              ⟨(some 47), .bin .add .i64 false, [.tmp 27, .const (.int .i64 1)], none⟩,
              ⟨(some 27), .mov, [.tmp 47], none⟩] false)))))))))
      (.ops [
        ⟨(some 48), .bin .add .i64 false, [.tmp 21, .const (.int .i64 1)], none⟩,
        ⟨(some 21), .mov, [.tmp 48], none⟩] false)))))))
  (.seq (.ops [
    ⟨(some 13), .nilOwn 56 2, [], none⟩] false)
  (.seq (.seq (.ops [
    ⟨(some 49), .mov, [.tmp 6], none⟩,
    ⟨(some 50), .callx 56, [.tmp 49], none⟩,
    ⟨(some 51), .callx 55, [.tmp 50], none⟩,
    ⟨(some 52), .len, [.tmp 51], none⟩,
    ⟨(some 53), .mov, [.const (.int .i64 0)], none⟩] false)
  (.block 4
    (.loop
      (.seq (.ops [
        ⟨(some 54), .cmp .lss, [.tmp 53, .tmp 52], none⟩] false)
      (.seq (.cond (.tmp 54)
        .skip
        (.exit 4))
      (.seq (.block 5
        (.seq (.ops [
          ⟨(some 55), .idx 1, [.tmp 51, .tmp 53], none⟩,
          ⟨(some 56), .load 1 false, [.tmp 55], none⟩,
          ⟨(some 15), .mov, [.tmp 56], none⟩] false)
        (.seq (.ops [
          ⟨(some 57), .mov, [.tmp 6], none⟩,
          ⟨(some 58), .mov, [.tmp 15], none⟩,
          ⟨(some 59), .lookup [.int .i64 0] 0 false false, [.tmp 57, .tmp 58], none⟩,
          ⟨(some 60), .cmp .neq, [.tmp 59, .const (.int .i64 0)], none⟩] false)
        (.cond (.tmp 60)
          (.ops [
            ⟨(some 61), .mov, [.tmp 13], none⟩,
            ⟨(some 62), .mov, [.tmp 15], none⟩,
            ⟨(some 63), .mov, [.tmp 6], none⟩,
            ⟨(some 64), .mov, [.tmp 15], none⟩,
            ⟨(some 65), .lookup [.int .i64 0] 0 false false, [.tmp 63, .tmp 64], none⟩,
            ⟨(some 66), .build [.int .i64 0, .int .i64 0] [(0, 1), (1, 1)], [.tmp 62, .tmp 65], none⟩,
            ⟨(some 67), .buildSl 56 2, [.tmp 66], none⟩,
            ⟨(some 68), .append 56 2 16, [.tmp 61, .tmp 67], none⟩,
            ⟨(some 13), .mov, [.tmp 68], none⟩] false)
          .skip))))
      (.ops [
        ⟨(some 69), .bin .add .i64 false, [.tmp 53, .const (.int .i64 1)], none⟩,
        ⟨(some 53), .mov, [.tmp 69], none⟩] false)))))))
  (.seq (.ops [
    ⟨(some 70), .mov, [.tmp 13], none⟩,
    ⟨(some 4), .mov, [.tmp 70], none⟩,
    ⟨(some 5), .mov, [.const (.int .i64 0)], none⟩] false)
  .ret))))))⟩
theorem addLow : lowF Try.prog { exts := [50, 51], owns := [(13, 56)] } Try.f34 = some addIr := by kernel_rfl
def addS : Spec := spec (List Share × List Share) (fun p => [L 2 (p.1.map encS), L 2 (p.2.map encS)]) (fun p => (p.1.length ≤ 100000 ∧ p.2.length ≤ 100000) ∧ ∀ x ∈ p.1 ++ p.2, okO x) (fun p => addT p.1 p.2)
theorem addV : fnV Try.prog addIr addS := by
  intro ⟨(a : List Share), (b : List Share)⟩ hx
  obtain ⟨⟨la, lb⟩, hok⟩ : (a.length ≤ 100000 ∧ b.length ≤ 100000) ∧ ∀ x ∈ a ++ b, okO x := hx
  show vc _ _ _ _ ⟨argEnv 0 [L 2 (a.map encS), L 2 (b.map encS)], [], 0⟩
  repeat' ((conv => whnf); first | (refine ⟨fun h => ?_, fun h => ?_⟩ <;> try (exfalso; first | omega | exact absurd h (by decide) | exact h rfl)) | refine ⟨⟨by omega, by omega⟩, ?_⟩ | fail | fail)
  refine ⟨Nat × (List (List Int × List CV)), fun xq => ⟨[(6, .mp 0), (19, L 1 [[CV.sl 2 (a.map encS)], [CV.sl 2 (b.map encS)]]), (20, I 2), (21, I xq.1)], [(0, .map 0 false xq.2)], 1⟩, fun xq => ∃ ks, xq.1 ≤ 2 ∧ Sums (preS a b xq.1) ks ∧ xq.2 = kvOf (amt (preS a b xq.1)) ks ∧ addO (preS a b xq.1) (postS a b xq.1) = addO [] (a ++ b), fun xq => 2 - xq.1, ⟨(0, _), ?_, [], ⟨⟨rfl, rfl⟩, ⟨⟨rfl, rfl⟩, ⟨⟨rfl, rfl⟩, ⟨⟨rfl, rfl⟩, trivial⟩⟩⟩⟩, ⟨⟨rfl, rfl, rfl⟩, trivial⟩, rfl, rfl, rfl⟩, ?_⟩
  · (try dsimp only); exact ⟨[], by omega, Sums.nil, rfl, rfl⟩
  rintro ⟨t, kv⟩ hk
  obtain ⟨ks, ht, hs, rfl, hadd⟩ : ∃ ks, t ≤ 2 ∧ Sums (preS a b t) ks ∧ kv = kvOf (amt (preS a b t)) ks ∧ addO (preS a b t) (postS a b t) = addO [] (a ++ b) := hk
  (try dsimp only)
  have htt : t = 0 ∨ t = 1 ∨ t = 2 := by omega
  rcases htt with rfl | rfl | rfl
  · change Sums [] ks at hs
    change addO [] (a ++ b) = _ at hadd
    repeat' ((conv => whnf); first | (refine ⟨fun h => ?_, fun h => ?_⟩ <;> try (exfalso; first | omega | exact absurd h (by decide) | exact h rfl)) | (refine ⟨(by simp), fun r hr => ?_⟩; (have hre : [CV.sl 2 (a.map encS)] = r := by (first | exact Option.some.inj hr | fail)); subst hre) | refine ⟨⟨by omega, by omega⟩, ?_⟩ | fail | fail)
    refine ⟨Nat × (List (List Int × List CV)), fun xq => ⟨[(6, .mp 0), (19, L 1 [[CV.sl 2 (a.map encS)], [CV.sl 2 (b.map encS)]]), (20, I 2), (21, I 0), (25, L 2 (a.map encS)), (26, I (a.map encS).length), (27, I xq.1)], [(0, .map 0 false xq.2)], 1⟩, fun xq => ∃ ks, xq.1 ≤ a.length ∧ Sums ([] ++ a.take xq.1) ks ∧ xq.2 = kvOf (amt ([] ++ a.take xq.1)) ks ∧ addO ([] ++ a.take xq.1) (a.drop xq.1 ++ b) = addO [] (a ++ b), fun xq => a.length - xq.1, ⟨(0, _), ?_, [], ⟨⟨rfl, rfl⟩, ⟨⟨rfl, rfl⟩, ⟨⟨rfl, rfl⟩, ⟨⟨rfl, rfl⟩, ⟨⟨rfl, rfl⟩, ⟨⟨rfl, rfl⟩, ⟨⟨rfl, rfl⟩, trivial⟩⟩⟩⟩⟩⟩⟩, ⟨⟨rfl, rfl, rfl⟩, trivial⟩, rfl, rfl, rfl⟩, ?_⟩
    · (try dsimp only); exact ⟨ks, Nat.zero_le _, by rw [List.take_zero, List.append_nil]; exact hs, by rw [List.take_zero, List.append_nil]; rfl, by rw [List.take_zero, List.append_nil]; exact hadd⟩
    rintro ⟨k, kv⟩ hk
    obtain ⟨ks, hk, hs, rfl, hadd⟩ : ∃ ks, k ≤ a.length ∧ Sums ([] ++ a.take k) ks ∧ kv = kvOf (amt ([] ++ a.take k)) ks ∧ addO ([] ++ a.take k) (a.drop k ++ b) = addO [] (a ++ b) := hk
    (try dsimp only)
    have hla : (a.map encS).length = a.length := List.length_map ..
    by_cases hkl : k < a.length
    · obtain ⟨x, hx⟩ := getElem_some hkl
      rw [drop_of hx, List.cons_append] at hadd
      obtain ⟨b0, b1⟩ := hs.bnd x.o
      cases hp : plusF (amt ([] ++ a.take k) x.o) x.a with
      | none =>
        have hbad := addO_bad hadd hp
        repeat' ((conv => whnf); first | refine look_kv (fun hn => hs.zero hn) ?_ | (refine ⟨fun h => ?_, fun h => ?_⟩ <;> try (exfalso; first | omega | exact absurd h (by decide) | exact h rfl)) | (refine ⟨_, plus_h, (amt ([] ++ a.take k) x.o, x.a), ⟨b0, b1⟩, leVs_of_eq rfl, .inl rfl, rfl, ?_⟩; show norm (optT (plusF (amt ([] ++ a.take k) x.o) x.a)) _; rw [hp]) | (refine ⟨by omega, fun r hrr => ?_⟩; (have hre : r = encS x := by (first | exact get_row hrr hx | fail)); subst hre) | fail | fail)
        all_goals (refine ⟨[], rfl, trivial, ?_⟩; show leR _ (addT a b); unfold addT; rw [hbad]; exact ⟨rfl, rfl, trivial⟩)
      | some v =>
        obtain ⟨ks', hs', hset⟩ := hs.step hp
        have hadd' := addO_step hadd hp
        rw [List.append_assoc, ← take_snoc a k x hx] at hs' hset hadd'
        repeat' ((conv => whnf); first | refine look_kv (fun hn => hs.zero hn) ?_ | (refine ⟨fun h => ?_, fun h => ?_⟩ <;> try (exfalso; first | omega | exact absurd h (by decide) | exact h rfl)) | (refine ⟨_, plus_h, (amt ([] ++ a.take k) x.o, x.a), ⟨b0, b1⟩, leVs_of_eq rfl, .inl rfl, rfl, ?_⟩; show norm (optT (plusF (amt ([] ++ a.take k) x.o) x.a)) _; rw [hp]) | (refine ⟨(k + 1, _), ⟨?_, by (try dsimp only); omega⟩, [], ⟨⟨rfl, rfl⟩, ⟨⟨rfl, rfl⟩, ⟨⟨rfl, rfl⟩, ⟨⟨rfl, rfl⟩, ⟨⟨rfl, rfl⟩, ⟨⟨rfl, rfl⟩, ⟨⟨rfl, rfl⟩, trivial⟩⟩⟩⟩⟩⟩⟩, ⟨⟨rfl, rfl, rfl⟩, trivial⟩, rfl, rfl, rfl⟩; (try dsimp only); exact ⟨ks', by omega, hs', hset, hadd'⟩) | (refine ⟨by omega, fun r hrr => ?_⟩; (have hre : r = encS x := by (first | exact get_row hrr hx | fail)); subst hre) | refine ⟨⟨by omega, by omega⟩, ?_⟩ | fail)
    · rw [drop_end hkl, List.nil_append] at hadd
      rw [take_end hkl] at hs hadd ⊢
      repeat' ((conv => whnf); first | (refine ⟨fun h => ?_, fun h => ?_⟩ <;> try (exfalso; first | omega | exact absurd h (by decide) | exact h rfl)) | (refine ⟨(1, _), ⟨?_, by (try dsimp only); omega⟩, [], ⟨⟨rfl, rfl⟩, ⟨⟨rfl, rfl⟩, ⟨⟨rfl, rfl⟩, ⟨⟨rfl, rfl⟩, trivial⟩⟩⟩⟩, ⟨⟨rfl, rfl, rfl⟩, trivial⟩, rfl, rfl, rfl⟩; (try dsimp only); exact ⟨ks, by omega, hs, rfl, hadd⟩) | refine ⟨⟨by omega, by omega⟩, ?_⟩ | fail)
  · change Sums a ks at hs
    change addO a b = _ at hadd
    replace hadd : addO a (b ++ []) = addO [] (a ++ b) := by rw [List.append_nil]; exact hadd
    repeat' ((conv => whnf); first | (refine ⟨fun h => ?_, fun h => ?_⟩ <;> try (exfalso; first | omega | exact absurd h (by decide) | exact h rfl)) | (refine ⟨(by simp), fun r hr => ?_⟩; (have hre : [CV.sl 2 (b.map encS)] = r := by (first | exact Option.some.inj hr | fail)); subst hre) | refine ⟨⟨by omega, by omega⟩, ?_⟩ | fail | fail)
    refine ⟨Nat × (List (List Int × List CV)), fun xq => ⟨[(6, .mp 0), (19, L 1 [[CV.sl 2 (a.map encS)], [CV.sl 2 (b.map encS)]]), (20, I 2), (21, I 1), (25, L 2 (b.map encS)), (26, I (b.map encS).length), (27, I xq.1)], [(0, .map 0 false xq.2)], 1⟩, fun xq => ∃ ks, xq.1 ≤ b.length ∧ Sums (a ++ b.take xq.1) ks ∧ xq.2 = kvOf (amt (a ++ b.take xq.1)) ks ∧ addO (a ++ b.take xq.1) (b.drop xq.1 ++ []) = addO [] (a ++ b), fun xq => b.length - xq.1, ⟨(0, _), ?_, [], ⟨⟨rfl, rfl⟩, ⟨⟨rfl, rfl⟩, ⟨⟨rfl, rfl⟩, ⟨⟨rfl, rfl⟩, ⟨⟨rfl, rfl⟩, ⟨⟨rfl, rfl⟩, ⟨⟨rfl, rfl⟩, trivial⟩⟩⟩⟩⟩⟩⟩, ⟨⟨rfl, rfl, rfl⟩, trivial⟩, rfl, rfl, rfl⟩, ?_⟩
    · (try dsimp only); exact ⟨ks, Nat.zero_le _, by rw [List.take_zero, List.append_nil]; exact hs, by rw [List.take_zero, List.append_nil]; rfl, by rw [List.take_zero, List.append_nil]; exact hadd⟩
    rintro ⟨k, kv⟩ hk
    obtain ⟨ks, hk, hs, rfl, hadd⟩ : ∃ ks, k ≤ b.length ∧ Sums (a ++ b.take k) ks ∧ kv = kvOf (amt (a ++ b.take k)) ks ∧ addO (a ++ b.take k) (b.drop k ++ []) = addO [] (a ++ b) := hk
    (try dsimp only)
    have hlb : (b.map encS).length = b.length := List.length_map ..
    by_cases hkl : k < b.length
    · obtain ⟨x, hx⟩ := getElem_some hkl
      rw [drop_of hx, List.cons_append] at hadd
      obtain ⟨b0, b1⟩ := hs.bnd x.o
      cases hp : plusF (amt (a ++ b.take k) x.o) x.a with
      | none =>
        have hbad := addO_bad hadd hp
        repeat' ((conv => whnf); first | refine look_kv (fun hn => hs.zero hn) ?_ | (refine ⟨fun h => ?_, fun h => ?_⟩ <;> try (exfalso; first | omega | exact absurd h (by decide) | exact h rfl)) | (refine ⟨_, plus_h, (amt (a ++ b.take k) x.o, x.a), ⟨b0, b1⟩, leVs_of_eq rfl, .inl rfl, rfl, ?_⟩; show norm (optT (plusF (amt (a ++ b.take k) x.o) x.a)) _; rw [hp]) | (refine ⟨by omega, fun r hrr => ?_⟩; (have hre : r = encS x := by (first | exact get_row hrr hx | fail)); subst hre) | fail | fail)
        all_goals (refine ⟨[], rfl, trivial, ?_⟩; show leR _ (addT a b); unfold addT; rw [hbad]; exact ⟨rfl, rfl, trivial⟩)
      | some v =>
        obtain ⟨ks', hs', hset⟩ := hs.step hp
        have hadd' := addO_step hadd hp
        rw [List.append_assoc, ← take_snoc b k x hx] at hs' hset hadd'
        repeat' ((conv => whnf); first | refine look_kv (fun hn => hs.zero hn) ?_ | (refine ⟨fun h => ?_, fun h => ?_⟩ <;> try (exfalso; first | omega | exact absurd h (by decide) | exact h rfl)) | (refine ⟨_, plus_h, (amt (a ++ b.take k) x.o, x.a), ⟨b0, b1⟩, leVs_of_eq rfl, .inl rfl, rfl, ?_⟩; show norm (optT (plusF (amt (a ++ b.take k) x.o) x.a)) _; rw [hp]) | (refine ⟨(k + 1, _), ⟨?_, by (try dsimp only); omega⟩, [], ⟨⟨rfl, rfl⟩, ⟨⟨rfl, rfl⟩, ⟨⟨rfl, rfl⟩, ⟨⟨rfl, rfl⟩, ⟨⟨rfl, rfl⟩, ⟨⟨rfl, rfl⟩, ⟨⟨rfl, rfl⟩, trivial⟩⟩⟩⟩⟩⟩⟩, ⟨⟨rfl, rfl, rfl⟩, trivial⟩, rfl, rfl, rfl⟩; (try dsimp only); exact ⟨ks', by omega, hs', hset, hadd'⟩) | (refine ⟨by omega, fun r hrr => ?_⟩; (have hre : r = encS x := by (first | exact get_row hrr hx | fail)); subst hre) | refine ⟨⟨by omega, by omega⟩, ?_⟩ | fail)
    · rw [drop_end hkl, List.nil_append] at hadd
      rw [take_end hkl] at hs hadd ⊢
      repeat' ((conv => whnf); first | (refine ⟨fun h => ?_, fun h => ?_⟩ <;> try (exfalso; first | omega | exact absurd h (by decide) | exact h rfl)) | (refine ⟨(2, _), ⟨?_, by (try dsimp only); omega⟩, [], ⟨⟨rfl, rfl⟩, ⟨⟨rfl, rfl⟩, ⟨⟨rfl, rfl⟩, ⟨⟨rfl, rfl⟩, trivial⟩⟩⟩⟩, ⟨⟨rfl, rfl, rfl⟩, trivial⟩, rfl, rfl, rfl⟩; (try dsimp only); exact ⟨ks, by omega, hs, rfl, hadd⟩) | refine ⟨⟨by omega, by omega⟩, ?_⟩ | fail)
  · change Sums (a ++ b) ks at hs
    change addO (a ++ b) [] = _ at hadd
    have hgood : addO [] (a ++ b) = true := by rw [← hadd]; rfl
    have hz := sorted_keys hs.nd hs.mem
    have hkl := keysL_len (a ++ b)
    rw [List.length_append] at hkl
    have hksl : (kvOf (amt (a ++ b)) ks).length ≤ 1000000 := by have := hs.len; rw [List.length_append] at this; rw [kvOf, List.length_map]; omega
    have hks : ∀ p ∈ kvOf (amt (a ++ b)) ks, ∃ n : Int, p.1 = [n] ∧ (Lit.int .i64 n).wf = true := by
      intro p hp
      obtain ⟨o, ho, rfl⟩ := List.mem_map.1 hp
      obtain ⟨x, hx, rfl⟩ := List.mem_map.1 ((hs.mem o).1 ho)
      exact ⟨_, rfl, hok x hx⟩
    have hnd : ((kvOf (amt (a ++ b)) ks).map fun p => headI p.1).Nodup := by rw [kv_head]; exact hs.nd
    have hz' : keysL (a ++ b) = ((kvOf (amt (a ++ b)) ks).map fun p => headI p.1).mergeSort Go.leI := by rw [kv_head]; exact hz
    repeat' ((conv => whnf); first | (refine ⟨fun h => ?_, fun h => ?_⟩ <;> try (exfalso; first | omega | exact absurd h (by decide) | exact h rfl)) | refine keys_x _ _ rfl _ ?_ | refine sorted_x _ _ _ rfl rfl hksl hks hnd (keysL (a ++ b)) hz' _ ?_ | fail | fail)
    refine ⟨Nat × (List (List CV)), fun xq => ⟨[(6, .mp 0), (13, .osl 1), (51, .osl 2), (52, I ((keysL (a ++ b)).map fun n => [CV.int .i64 n]).length), (53, I xq.1)], [(0, .map 0 false (kvOf (amt (a ++ b)) ks)), (1, .row 56 2 xq.2), (2, .row 3 1 ((keysL (a ++ b)).map fun n => [CV.int .i64 n]))], 3⟩, fun xq => xq.1 ≤ (keysL (a ++ b)).length ∧ xq.2 = (fewK (a ++ b) ((keysL (a ++ b)).take xq.1)).map encS, fun xq => (keysL (a ++ b)).length - xq.1, ⟨(0, _), ?_, [(0, 0), (1, 1), (2, 3)], ⟨⟨rfl, rfl⟩, ⟨⟨rfl, rfl⟩, ⟨⟨rfl, rfl⟩, ⟨⟨rfl, rfl⟩, ⟨⟨rfl, rfl⟩, trivial⟩⟩⟩⟩⟩, ⟨⟨rfl, rfl, rfl⟩, ⟨⟨rfl, rfl, rfl⟩, ⟨⟨rfl, rfl, rfl⟩, trivial⟩⟩⟩, rfl, rfl, rfl⟩, ?_⟩
    · (try dsimp only); exact ⟨Nat.zero_le _, rfl⟩
    rintro ⟨k, es⟩ hk
    obtain ⟨hk, rfl⟩ : k ≤ (keysL (a ++ b)).length ∧ es = (fewK (a ++ b) ((keysL (a ++ b)).take k)).map encS := hk
    (try dsimp only)
    have hlz : ((keysL (a ++ b)).map fun n => [CV.int .i64 n]).length = (keysL (a ++ b)).length := List.length_map ..
    have hfl := fewK_len (a ++ b) ((keysL (a ++ b)).take k)
    have hfl1 : ((fewK (a ++ b) ((keysL (a ++ b)).take k)).map encS).length = (fewK (a ++ b) ((keysL (a ++ b)).take k)).length := List.length_map ..
    rw [List.length_take] at hfl
    by_cases hkk : k < (keysL (a ++ b)).length
    · obtain ⟨o, ho⟩ := getElem_some hkk
      have gk : ((keysL (a ++ b)).map fun n => [CV.int .i64 n])[(k : Int).toNat]? = some [.int .i64 o] := by rw [Int.toNat_natCast, List.getElem?_map, ho]; rfl
      by_cases h0 : amt (a ++ b) o = 0
      · have hst := fewK_no ho h0
        repeat' ((conv => whnf); first | refine look_kv (fun hn => hs.zero hn) ?_ | (refine ⟨fun h => ?_, fun h => ?_⟩ <;> try (exfalso; first | omega | exact absurd h (by decide) | exact h rfl)) | refine get_at gk ?_ | (refine ⟨(k + 1, _), ⟨?_, by (try dsimp only); omega⟩, [], ⟨⟨rfl, rfl⟩, ⟨⟨rfl, rfl⟩, ⟨⟨rfl, rfl⟩, ⟨⟨rfl, rfl⟩, ⟨⟨rfl, rfl⟩, trivial⟩⟩⟩⟩⟩, ⟨⟨rfl, rfl, rfl⟩, ⟨⟨rfl, rfl, rfl⟩, ⟨⟨rfl, rfl, rfl⟩, trivial⟩⟩⟩, rfl, rfl, rfl⟩; (try dsimp only); exact ⟨by omega, by rw [hst]⟩) | refine ⟨⟨by omega, by omega⟩, ?_⟩ | fail)
      · have hst := fewK_yes ho h0
        repeat' ((conv => whnf); first | refine look_kv (fun hn => hs.zero hn) ?_ | (refine ⟨fun h => ?_, fun h => ?_⟩ <;> try (exfalso; first | omega | exact absurd h (by decide) | exact h rfl)) | refine get_at gk ?_ | (refine ⟨(k + 1, _), ⟨?_, by (try dsimp only); omega⟩, [(0, 0), (1, 3), (2, 2)], ⟨⟨rfl, rfl⟩, ⟨⟨rfl, rfl⟩, ⟨⟨rfl, rfl⟩, ⟨⟨rfl, rfl⟩, ⟨⟨rfl, rfl⟩, trivial⟩⟩⟩⟩⟩, ⟨⟨rfl, rfl, rfl⟩, ⟨⟨rfl, rfl, rfl⟩, ⟨⟨rfl, rfl, rfl⟩, trivial⟩⟩⟩, rfl, rfl, rfl⟩; (try dsimp only); exact ⟨by omega, by rw [hst, List.map_append]; rfl⟩) | refine ⟨⟨by omega, by omega⟩, ?_⟩ | (refine ⟨⟨by simp only [List.length_cons, List.length_nil]; omega, by simp only [List.length_cons, List.length_nil]; omega⟩, ?_⟩) | fail)
    · rw [take_end hkk, fewK_all]
      repeat' ((conv => whnf); first | (refine ⟨fun h => ?_, fun h => ?_⟩ <;> try (exfalso; first | omega | exact absurd h (by decide) | exact h rfl)) | fail | fail)
      all_goals (refine ⟨[], rfl, trivial, ?_⟩; show leR _ (addT a b); unfold addT; rw [hgood]; exact ⟨rfl, rfl, trivial⟩)
theorem add_h : Holds Try.prog 34 addS := holds_of mix Try.func34 addLow (fun _ => rfl) addV

end Go.Proofs.Ytbglmocgijlomaa

/- Split: the reference's Add. -/
namespace Go.Proofs.Ytbglmocgijlomaa
open Go.RowKit
theorem map_setS (l : List Share) (i : Nat) (z : Share) : (l.map encS).set i [.int .i64 z.o, .int .i64 z.a] = (l.set i z).map encS := by rw [List.map_set]
theorem mid_get {α : Type} (A : List α) (y : α) (B : List α) : (A ++ y :: B)[A.length]? = some y := by rw [List.getElem?_append_right (Nat.le_refl _), Nat.sub_self]; rfl
theorem mid_set {α : Type} (A : List α) (y z : α) (B : List α) : (A ++ y :: B).set A.length z = A ++ z :: B := by rw [List.set_append_right _ _ (Nat.le_refl _), Nat.sub_self]; rfl
theorem last_ex {α : Type} {l : List α} (h : 0 < l.length) : ∃ r y, l = r ++ [y] := ⟨l.dropLast, l.getLast (by intro e; rw [e] at h; simp at h), (List.dropLast_concat_getLast _).symm⟩
theorem row_set {T A B : List Share} {y z : Share} {u : Nat} (hT : T = A ++ y :: B) (hu : A.length = u) : (T.map encS).set u [.int .i64 z.o, .int .i64 z.a] = (A ++ z :: B).map encS := by
  subst hT; subst hu; rw [map_setS, mid_set]
theorem tab_lt (p : List Share) : (tabL p).Pairwise fun x y => x.o < y.o := by
  rw [tabL, List.pairwise_map]; exact (keysL_spec p).1
theorem tab_amt {p : List Share} {y : Share} (h : y ∈ tabL p) : y.a = amt p y.o := by
  obtain ⟨o, _, rfl⟩ := List.mem_map.1 h; rfl
theorem tab_new {p : List Share} {o : Int} (h : ∀ z ∈ tabL p, z.o ≠ o) : amt p o = 0 := amt_out fun e => by
  have h1 := (keysL_spec p).2 o |>.2 e
  exact h ⟨o, amt p o⟩ (List.mem_map.2 ⟨o, h1, rfl⟩) rfl
def few0 (l : List Share) : List Share := l.filter fun x => decide (x.a ≠ 0)
theorem few0_no {l : List Share} {k : Nat} {x : Share} (h : l[k]? = some x) (h0 : x.a = 0) : few0 (l.take (k + 1)) = few0 (l.take k) := by
  rw [take_snoc l k x h, few0, few0, List.filter_append]; simp [h0]
theorem few0_yes {l : List Share} {k : Nat} {x : Share} (h : l[k]? = some x) (h0 : ¬ x.a = 0) : few0 (l.take (k + 1)) = few0 (l.take k) ++ [x] := by
  rw [take_snoc l k x h, few0, few0, List.filter_append]; simp [h0]
theorem few0_len (l : List Share) : (few0 l).length ≤ l.length := List.length_filter_le _ _
theorem tab_len (p : List Share) : (tabL p).length ≤ p.length := by rw [tabL, List.length_map]; exact keysL_len p

/-! skiarea/skiarearef34.Add -/
def raddIr : IFn := ⟨131, [.tmp 4, .tmp 5],
  (.seq (.ops [
    ⟨(some 4), .mov, [.const (.slice none 0 0)], none⟩,
    ⟨(some 5), .mov, [.const (.int .i64 0)], none⟩] false)
  (.seq (.ops [
    ⟨(some 15), .mov, [.tmp 0], none⟩,
    ⟨(some 16), .append 56 2 16, [.const (.slice none 0 0), .tmp 15], none⟩,
    ⟨(some 17), .mov, [.tmp 1], none⟩,
    ⟨(some 18), .append 56 2 16, [.tmp 16, .tmp 17], none⟩,
    ⟨(some 6), .mov, [.tmp 18], none⟩] false)
  (.seq (.ops [
    ⟨(some 7), .nilOwn 56 2, [], none⟩] false)
  (.seq (.seq (.ops [
    ⟨(some 8), .mov, [.const (.int .i64 0)], none⟩] false)
  (.block 0
    (.loop
      (.seq (.seq (.ops [
        ⟨(some 19), .mov, [.tmp 8], none⟩,
        ⟨(some 20), .mov, [.tmp 6], none⟩,
        ⟨(some 21), .len, [.tmp 20], none⟩,
        ⟨(some 22), .cmp .lss, [.tmp 19, .tmp 21], none⟩] false)
      (.cond (.tmp 22)
        .skip
        (.exit 0)))
      (.seq (.block 1
        (.seq (.ops [
          ⟨(some 9), .mov, [.const (.int .i64 0)], none⟩] false)
        (.seq (.block 2
          (.loop
            (.seq (.seq (.ops [
              ⟨(some 25), .mov, [.tmp 9], none⟩,
              ⟨(some 26), .mov, [.tmp 7], none⟩,
              ⟨(some 27), .len, [.tmp 26], none⟩,
              ⟨(some 28), .cmp .lss, [.tmp 25, .tmp 27], none⟩,
              ⟨(some 29), .mov, [.tmp 28], none⟩,
              ⟨(some 30), .mov, [.tmp 7], (some (29, true))⟩,
              ⟨(some 31), .mov, [.tmp 9], (some (29, true))⟩,
              ⟨(some 32), .idx 2, [.tmp 30, .tmp 31], (some (29, true))⟩,
              ⟨(some 33), .faddr 0, [.tmp 32], (some (29, true))⟩,
              ⟨(some 34), .load 1 false, [.tmp 33], (some (29, true))⟩,
              ⟨(some 35), .mov, [.tmp 6], (some (29, true))⟩,
              ⟨(some 36), .mov, [.tmp 8], (some (29, true))⟩,
              ⟨(some 37), .idx 2, [.tmp 35, .tmp 36], (some (29, true))⟩,
              ⟨(some 38), .faddr 0, [.tmp 37], (some (29, true))⟩,
              ⟨(some 39), .load 1 false, [.tmp 38], (some (29, true))⟩,
              ⟨(some 40), .cmp .lss, [.tmp 34, .tmp 39], (some (29, true))⟩,
              ⟨(some 41), .pick, [.tmp 29, .tmp 40, .const (.bool false)], none⟩] true)
            (.cond (.tmp 41)
              .skip
              (.exit 2)))
            (.block 3
              (.ops [
                ⟨(some 42), .mov, [.tmp 9], none⟩,
                ⟨(some 43), .bin .add .i64 false, [.tmp 42, .const (.int .i64 1)], none⟩,
                ⟨(some 9), .mov, [.tmp 43], none⟩] false)))))
        (.seq (.seq (.ops [
          ⟨(some 44), .mov, [.tmp 9], none⟩,
          ⟨(some 45), .mov, [.tmp 7], none⟩,
          ⟨(some 46), .len, [.tmp 45], none⟩,
          ⟨(some 47), .cmp .eql, [.tmp 44, .tmp 46], none⟩,
          ⟨(some 48), .mov, [.tmp 47], none⟩,
          ⟨(some 49), .mov, [.tmp 7], (some (48, false))⟩,
          ⟨(some 50), .mov, [.tmp 9], (some (48, false))⟩,
          ⟨(some 51), .idx 2, [.tmp 49, .tmp 50], (some (48, false))⟩,
          ⟨(some 52), .faddr 0, [.tmp 51], (some (48, false))⟩,
          ⟨(some 53), .load 1 false, [.tmp 52], (some (48, false))⟩,
          ⟨(some 54), .mov, [.tmp 6], (some (48, false))⟩,
          ⟨(some 55), .mov, [.tmp 8], (some (48, false))⟩,
          ⟨(some 56), .idx 2, [.tmp 54, .tmp 55], (some (48, false))⟩,
          ⟨(some 57), .faddr 0, [.tmp 56], (some (48, false))⟩,
          ⟨(some 58), .load 1 false, [.tmp 57], (some (48, false))⟩,
          ⟨(some 59), .cmp .neq, [.tmp 53, .tmp 58], (some (48, false))⟩,
          ⟨(some 60), .pick, [.tmp 48, .const (.bool true), .tmp 59], none⟩] true)
        (.cond (.tmp 60)
          (.seq (.ops [
            ⟨(some 61), .mov, [.tmp 7], none⟩,
            ⟨(some 62), .build [.int .i64 0, .int .i64 0] [], [], none⟩,
            ⟨(some 63), .buildSl 56 2, [.tmp 62], none⟩,
            ⟨(some 64), .append 56 2 16, [.tmp 61, .tmp 63], none⟩,
            ⟨(some 7), .mov, [.tmp 64], none⟩] false)
          (.seq (.seq (.ops [
            ⟨(some 65), .mov, [.tmp 7], none⟩,
            ⟨(some 66), .len, [.tmp 65], none⟩,
            ⟨(some 67), .bin .sub .i64 false, [.tmp 66, .const (.int .i64 1)], none⟩,
            ⟨(some 10), .mov, [.tmp 67], none⟩] false)
          (.block 4
            (.loop
              (.seq (.seq (.ops [
                ⟨(some 68), .mov, [.tmp 10], none⟩,
                ⟨(some 69), .mov, [.tmp 9], none⟩,
                ⟨(some 70), .cmp .gtr, [.tmp 68, .tmp 69], none⟩] false)
              (.cond (.tmp 70)
                .skip
                (.exit 4)))
              (.seq (.block 5
                (.ops [
                  ⟨(some 73), .mov, [.tmp 7], none⟩,
                  ⟨(some 74), .mov, [.tmp 10], none⟩,
                  ⟨(some 75), .mov, [.tmp 7], none⟩,
                  ⟨(some 76), .mov, [.tmp 10], none⟩,
                  ⟨(some 77), .bin .sub .i64 false, [.tmp 76, .const (.int .i64 1)], none⟩,
                  ⟨(some 78), .idx 2, [.tmp 75, .tmp 77], none⟩,
                  ⟨(some 79), .load 2 true, [.tmp 78], none⟩,
                  ⟨(some 80), .idx 2, [.tmp 73, .tmp 74], none⟩,
                  ⟨none, .store 2, [.tmp 80, .tmp 79], none⟩] false))
              (.ops [
                ⟨(some 71), .mov, [.tmp 10], none⟩,
                ⟨(some 72), .bin .sub .i64 false, [.tmp 71, .const (.int .i64 1)], none⟩,
                ⟨(some 10), .mov, [.tmp 72], none⟩] false))))))
          (.ops [
            ⟨(some 81), .mov, [.tmp 7], none⟩,
            ⟨(some 82), .mov, [.tmp 9], none⟩,
            ⟨(some 83), .mov, [.tmp 6], none⟩,
            ⟨(some 84), .mov, [.tmp 8], none⟩,
            ⟨(some 85), .idx 2, [.tmp 83, .tmp 84], none⟩,
            ⟨(some 86), .faddr 0, [.tmp 85], none⟩,
            ⟨(some 87), .load 1 false, [.tmp 86], none⟩,
            ⟨(some 88), .build [.int .i64 0, .int .i64 0] [(0, 1)], [.tmp 87], none⟩,
            ⟨(some 89), .idx 2, [.tmp 81, .tmp 82], none⟩,
            ⟨none, .store 2, [.tmp 89, .tmp 88], none⟩] false)))
          .skip))
        (.seq (.ops [
          ⟨(some 91), .mov, [.tmp 7], none⟩,
          ⟨(some 92), .mov, [.tmp 9], none⟩,
          ⟨(some 93), .idx 2, [.tmp 91, .tmp 92], none⟩,
          ⟨(some 94), .faddr 1, [.tmp 93], none⟩,
          ⟨(some 95), .load 1 false, [.tmp 94], none⟩,
          ⟨(some 96), .mov, [.tmp 6], none⟩,
          ⟨(some 97), .mov, [.tmp 8], none⟩,
          ⟨(some 98), .idx 2, [.tmp 96, .tmp 97], none⟩,
          ⟨(some 99), .faddr 1, [.tmp 98], none⟩,
          ⟨(some 100), .load 1 false, [.tmp 99], none⟩,
          ⟨(some 101), .call 59, [.tmp 95, .tmp 100], none⟩,
          ⟨(some 90), .mov, [.tmp 101], none⟩,
          ⟨(some 102), .extract 0, [.tmp 90], none⟩,
          ⟨(some 103), .extract 1, [.tmp 90], none⟩,
          ⟨(some 11), .mov, [.tmp 102], none⟩,
          ⟨(some 12), .mov, [.tmp 103], none⟩] true)
        (.seq (.seq (.ops [
          ⟨(some 104), .mov, [.tmp 12], none⟩,
          ⟨(some 105), .not, [.tmp 104], none⟩] false)
        (.cond (.tmp 105)
          (.seq (.ops [
            ⟨(some 4), .mov, [.const (.slice none 0 0)], none⟩,
            ⟨(some 5), .mov, [.const (.int .i64 12)], none⟩] false)
          .ret)
          .skip))
        (.ops [
          ⟨(some 106), .mov, [.tmp 7], none⟩,
          ⟨(some 107), .mov, [.tmp 9], none⟩,
          ⟨(some 108), .mov, [.tmp 11], none⟩,
          ⟨(some 109), .idx 2, [.tmp 106, .tmp 107], none⟩,
          ⟨(some 110), .faddr 1, [.tmp 109], none⟩,
          ⟨none, .store 1, [.tmp 110, .tmp 108], none⟩] false)))))))
      (.ops [
        ⟨(some 23), .mov, [.tmp 8], none⟩,
        ⟨(some 24), .bin .add .i64 false, [.tmp 23, .const (.int .i64 1)], none⟩,
        ⟨(some 8), .mov, [.tmp 24], none⟩] false))))))
  (.seq (.ops [
    ⟨(some 13), .nilOwn 56 2, [], none⟩] false)
  (.seq (.seq (.ops [
    ⟨(some 14), .mov, [.const (.int .i64 0)], none⟩] false)
  (.block 6
    (.loop
      (.seq (.seq (.ops [
        ⟨(some 111), .mov, [.tmp 14], none⟩,
        ⟨(some 112), .mov, [.tmp 7], none⟩,
        ⟨(some 113), .len, [.tmp 112], none⟩,
        ⟨(some 114), .cmp .lss, [.tmp 111, .tmp 113], none⟩] false)
      (.cond (.tmp 114)
        .skip
        (.exit 6)))
      (.seq (.block 7
        (.seq (.ops [
          ⟨(some 117), .mov, [.tmp 7], none⟩,
          ⟨(some 118), .mov, [.tmp 14], none⟩,
          ⟨(some 119), .idx 2, [.tmp 117, .tmp 118], none⟩,
          ⟨(some 120), .faddr 1, [.tmp 119], none⟩,
          ⟨(some 121), .load 1 false, [.tmp 120], none⟩,
          ⟨(some 122), .cmp .neq, [.tmp 121, .const (.int .i64 0)], none⟩] false)
        (.cond (.tmp 122)
          (.ops [
            ⟨(some 123), .mov, [.tmp 13], none⟩,
            ⟨(some 124), .mov, [.tmp 7], none⟩,
            ⟨(some 125), .mov, [.tmp 14], none⟩,
            ⟨(some 126), .idx 2, [.tmp 124, .tmp 125], none⟩,
            ⟨(some 127), .load 2 true, [.tmp 126], none⟩,
            ⟨(some 128), .buildSl 56 2, [.tmp 127], none⟩,
            ⟨(some 129), .append 56 2 16, [.tmp 123, .tmp 128], none⟩,
            ⟨(some 13), .mov, [.tmp 129], none⟩] false)
          .skip)))
      (.ops [
        ⟨(some 115), .mov, [.tmp 14], none⟩,
        ⟨(some 116), .bin .add .i64 false, [.tmp 115, .const (.int .i64 1)], none⟩,
        ⟨(some 14), .mov, [.tmp 116], none⟩] false))))))
  (.seq (.ops [
    ⟨(some 130), .mov, [.tmp 13], none⟩,
    ⟨(some 4), .mov, [.tmp 130], none⟩,
    ⟨(some 5), .mov, [.const (.int .i64 0)], none⟩] false)
  .ret)))))))⟩
theorem raddLow : lowF Try.prog { owns := [(7, 56), (13, 56)] } Try.f36 = some raddIr := by kernel_rfl
def raddS : Spec := spec (List Share × List Share) (fun p => [L 2 (p.1.map encS), L 2 (p.2.map encS)]) (fun p => p.1.length ≤ 100000 ∧ p.2.length ≤ 100000) (fun p => addT p.1 p.2)
theorem raddV : fnV Try.prog raddIr raddS := by
  intro ⟨(a : List Share), (b : List Share)⟩ hx
  obtain ⟨la, lb⟩ : a.length ≤ 100000 ∧ b.length ≤ 100000 := hx
  have hla : (a.map encS).length = a.length := List.length_map ..
  have hlb : (b.map encS).length = b.length := List.length_map ..
  have hlab : (a ++ b).length = a.length + b.length := List.length_append
  have hlas : ((a ++ b).map encS).length = a.length + b.length := by rw [List.length_map, hlab]
  show vc _ _ _ _ ⟨argEnv 0 [L 2 (a.map encS), L 2 (b.map encS)], [], 0⟩
  repeat' ((conv => whnf); first | (refine ⟨fun h => ?_, fun h => ?_⟩ <;> try (exfalso; first | omega | exact absurd h (by decide) | exact h rfl)) | refine ⟨⟨by omega, by omega⟩, ?_⟩ | (refine ⟨⟨by simp only [List.length_cons, List.length_nil]; omega, by simp only [List.length_cons, List.length_nil]; omega⟩, ?_⟩) | fail | fail)
  refine ⟨Nat × (List (List CV)) × (List (List CV)), fun xq => ⟨[(6, .osl 0), (7, .osl 1), (8, I xq.1)], [(0, .row 56 2 xq.2.1), (1, .row 56 2 xq.2.2)], 2⟩, fun xq => ∃ ks, (xq.1 ≤ a.length + b.length ∧ Sums ((a ++ b).take xq.1) ks) ∧ xq.2.1 = ((a ++ b).map encS) ∧ xq.2.2 = (tabL ((a ++ b).take xq.1)).map encS ∧ addO ((a ++ b).take xq.1) ((a ++ b).drop xq.1) = addO [] (a ++ b), fun xq => a.length + b.length - xq.1, ⟨(0, _, _), ?_, [(0, 1), (1, 2)], ⟨⟨rfl, rfl⟩, ⟨⟨rfl, rfl⟩, ⟨⟨rfl, rfl⟩, trivial⟩⟩⟩, ⟨⟨rfl, rfl, rfl⟩, ⟨⟨rfl, rfl, rfl⟩, trivial⟩⟩, rfl, rfl, rfl⟩, ?_⟩
  · (try dsimp only); exact ⟨[], ⟨Nat.zero_le _, Sums.nil⟩, by rw [List.map_append], rfl, rfl⟩
  rintro ⟨i, al, es⟩ hk
  obtain ⟨ks, ⟨hi, hs⟩, rfl, rfl, hadd⟩ : ∃ ks, (i ≤ a.length + b.length ∧ Sums ((a ++ b).take i) ks) ∧ al = ((a ++ b).map encS) ∧ es = (tabL ((a ++ b).take i)).map encS ∧ addO ((a ++ b).take i) ((a ++ b).drop i) = addO [] (a ++ b) := hk
  (try dsimp only)
  have htl := tab_len ((a ++ b).take i)
  have htl1 : ((tabL ((a ++ b).take i)).map encS).length = (tabL ((a ++ b).take i)).length := List.length_map ..
  rw [List.length_take] at htl
  by_cases hil : i < a.length + b.length
  · obtain ⟨x, hx⟩ := getElem_some (xs := a ++ b) (k := i) (by omega)
    have gx : ((a ++ b).map encS)[(i : Int).toNat]? = some (encS x) := get_share (by rw [Int.toNat_natCast]; exact hx)
    repeat' ((conv => whnf); first | (refine ⟨fun h => ?_, fun h => ?_⟩ <;> try (exfalso; first | omega | exact absurd h (by decide) | exact h rfl)) | fail | fail)
    refine ⟨Nat, fun xq => ⟨[(6, .osl 0), (7, .osl 1), (8, I i), (9, I xq)], [(0, .row 56 2 ((a ++ b).map encS)), (1, .row 56 2 ((tabL ((a ++ b).take i)).map encS))], 2⟩, fun xq => xq ≤ (tabL ((a ++ b).take i)).length ∧ ∀ z ∈ (tabL ((a ++ b).take i)).take xq, z.o < x.o, fun xq => (tabL ((a ++ b).take i)).length - xq, ⟨0, ?_, [], ⟨⟨rfl, rfl⟩, ⟨⟨rfl, rfl⟩, ⟨⟨rfl, rfl⟩, ⟨⟨rfl, rfl⟩, trivial⟩⟩⟩⟩, ⟨⟨rfl, rfl, rfl⟩, ⟨⟨rfl, rfl, rfl⟩, trivial⟩⟩, rfl, rfl, rfl⟩, ?_⟩
    · (try dsimp only); exact ⟨Nat.zero_le _, by simp⟩
    rintro u hk
    obtain ⟨hu0, hA⟩ : u ≤ (tabL ((a ++ b).take i)).length ∧ ∀ z ∈ (tabL ((a ++ b).take i)).take u, z.o < x.o := hk
    (try dsimp only)
    by_cases hu : u < (tabL ((a ++ b).take i)).length
    · obtain ⟨y, hy⟩ := getElem_some hu
      have gy : ((tabL ((a ++ b).take i)).map encS)[(u : Int).toNat]? = some (encS y) := get_share (by rw [Int.toNat_natCast]; exact hy)
      by_cases hlt : y.o < x.o
      · repeat' ((conv => whnf); first | (refine ⟨fun h => ?_, fun h => ?_⟩ <;> try (exfalso; first | omega | exact absurd h (by decide) | exact h rfl)) | refine get_at gx ?_ | refine get_at gy ?_ | (refine ⟨u + 1, ⟨?_, by (try dsimp only); omega⟩, [], ⟨⟨rfl, rfl⟩, ⟨⟨rfl, rfl⟩, ⟨⟨rfl, rfl⟩, ⟨⟨rfl, rfl⟩, trivial⟩⟩⟩⟩, ⟨⟨rfl, rfl, rfl⟩, ⟨⟨rfl, rfl, rfl⟩, trivial⟩⟩, rfl, rfl, rfl⟩; (try dsimp only); exact ⟨by omega, fun z hz => by rw [take_snoc _ u y hy] at hz; rcases List.mem_append.1 hz with h | h; exact hA z h; rw [List.mem_singleton] at h; rw [h]; exact hlt⟩) | refine ⟨⟨by omega, by omega⟩, ?_⟩ | fail)
      by_cases heq : y.o = x.o
      · have hT : tabL ((a ++ b).take i) = (tabL ((a ++ b).take i)).take u ++ y :: (tabL ((a ++ b).take i)).drop (u + 1) := by rw [← drop_of hy, List.take_append_drop]
        have hAl : ((tabL ((a ++ b).take i)).take u).length = u := by rw [List.length_take]; omega
        have hya := tab_amt (List.mem_of_getElem? hy)
        have htab := tab_same hT hA heq
        rw [← take_snoc _ i x hx] at htab
        obtain ⟨b0, b1⟩ := hs.bnd y.o
        rw [← hya] at b0 b1
        rw [drop_of hx] at hadd
        have hpe : plusF (amt ((a ++ b).take i) x.o) x.a = plusF y.a x.a := by rw [hya, heq]
        cases hp : plusF y.a x.a with
        | none =>
          have hbad := addO_bad hadd (hpe.trans hp)
          repeat' ((conv => whnf); first | (refine ⟨fun h => ?_, fun h => ?_⟩ <;> try (exfalso; first | omega | exact absurd h (by decide) | exact h rfl)) | refine get_at gx ?_ | refine get_at gy ?_ | (refine ⟨_, more_h, (y.a, x.a), ⟨b0, b1⟩, leVs_of_eq rfl, .inl rfl, rfl, ?_⟩; show norm (optT (plusF y.a x.a)) _; rw [hp]) | refine ⟨⟨by omega, by omega⟩, ?_⟩ | fail | fail)
          all_goals (refine ⟨[], rfl, trivial, ?_⟩; show leR _ (addT a b); unfold addT; rw [hbad]; exact ⟨rfl, rfl, trivial⟩)
        | some v =>
          obtain ⟨ks', hs', _⟩ := hs.step (hpe.trans hp)
          have hadd' := addO_step hadd (hpe.trans hp)
          rw [← take_snoc _ i x hx] at hs' hadd'
          have hv : v = y.a + x.a := by
            unfold plusF at hp
            split at hp
            · cases hp
            · cases hp; rfl
          have hset : ((tabL ((a ++ b).take i)).map encS).set (u : Int).toNat [.int .i64 y.o, .int .i64 v] = (tabL ((a ++ b).take (i + 1))).map encS := by
            rw [Int.toNat_natCast, row_set (z := ⟨y.o, v⟩) hT hAl, htab, heq, hv]
          repeat' ((conv => whnf); first | (refine ⟨fun h => ?_, fun h => ?_⟩ <;> try (exfalso; first | omega | exact absurd h (by decide) | exact h rfl)) | refine get_at gx ?_ | refine get_at gy ?_ | (refine ⟨_, more_h, (y.a, x.a), ⟨b0, b1⟩, leVs_of_eq rfl, .inl rfl, rfl, ?_⟩; show norm (optT (plusF y.a x.a)) _; rw [hp]) | (refine ⟨(i + 1, _, _), ⟨?_, by (try dsimp only); omega⟩, [], ⟨⟨rfl, rfl⟩, ⟨⟨rfl, rfl⟩, ⟨⟨rfl, rfl⟩, trivial⟩⟩⟩, ⟨⟨rfl, rfl, rfl⟩, ⟨⟨rfl, rfl, rfl⟩, trivial⟩⟩, rfl, rfl, rfl⟩; (try dsimp only); exact ⟨ks', ⟨by omega, hs'⟩, rfl, hset, hadd'⟩) | refine ⟨⟨by omega, by omega⟩, ?_⟩ | fail)
      · have hB : ∀ z ∈ (tabL ((a ++ b).take i)).drop u, x.o < z.o := by
          intro z hz
          rw [drop_of hy] at hz
          rcases List.mem_cons.1 hz with rfl | hz
          · omega
          · have hp := tab_lt ((a ++ b).take i)
            rw [← List.take_append_drop u (tabL ((a ++ b).take i)), drop_of hy, List.pairwise_append] at hp
            have := (List.pairwise_cons.1 hp.2.1).1 z hz
            omega
        have hT : tabL ((a ++ b).take i) = (tabL ((a ++ b).take i)).take u ++ (tabL ((a ++ b).take i)).drop u := (List.take_append_drop _ _).symm
        have hAl : ((tabL ((a ++ b).take i)).take u).length = u := by rw [List.length_take]; omega
        have hz0 : amt ((a ++ b).take i) x.o = 0 := tab_new fun z hz => by
          rw [hT] at hz
          rcases List.mem_append.1 hz with h | h
          · have := hA z h; omega
          · have := hB z h; omega
        have htab := tab_split hT hA hB
        rw [← take_snoc _ i x hx] at htab
        have hTl := congrArg List.length hT
        rw [List.length_append, hAl] at hTl
        obtain ⟨A, hAe⟩ : ∃ A, A = (tabL ((a ++ b).take i)).take u := ⟨_, rfl⟩
        obtain ⟨B, hBe⟩ : ∃ B, B = (tabL ((a ++ b).take i)).drop u := ⟨_, rfl⟩
        rw [← hAe] at hAl
        rw [← hBe] at hTl
        rw [← hAe, ← hBe] at htab hT
        repeat' ((conv => whnf); first | (refine ⟨fun h => ?_, fun h => ?_⟩ <;> try (exfalso; first | omega | exact absurd h (by decide) | exact h rfl)) | refine get_at gx ?_ | refine get_at gy ?_ | refine ⟨⟨by omega, by omega⟩, ?_⟩ | (refine ⟨⟨by simp only [List.length_cons, List.length_nil]; omega, by simp only [List.length_cons, List.length_nil]; omega⟩, ?_⟩) | (refine ⟨⟨by (simp only [List.length_append, List.length_cons, List.length_nil]; omega), by (simp only [List.length_append, List.length_cons, List.length_nil]; omega)⟩, ?_⟩) | fail | fail)
        refine ⟨Int × (List (List CV)), fun xq => ⟨[(6, .osl 0), (7, .osl 1), (8, I i), (9, I u), (10, I xq.1)], [(0, .row 56 2 ((a ++ b).map encS)), (1, .row 56 2 xq.2)], 2⟩, fun xq => ∃ (B1 B2 : List Share) (Y : Share), (B = B1 ++ B2 ∧ xq.1 = (u : Int) + (B1.length : Int)) ∧ xq.2 = (A ++ (B1 ++ Y :: B2)).map encS, fun xq => (xq.1 - u).toNat, ⟨(_, _), ?_, [(0, 0), (1, 2)], ⟨⟨rfl, rfl⟩, ⟨⟨rfl, rfl⟩, ⟨⟨rfl, rfl⟩, ⟨⟨rfl, rfl⟩, ⟨⟨rfl, rfl⟩, trivial⟩⟩⟩⟩⟩, ⟨⟨rfl, rfl, rfl⟩, ⟨⟨rfl, rfl, rfl⟩, trivial⟩⟩, rfl, rfl, rfl⟩, ?_⟩
        · (try dsimp only); exact ⟨B, [], ⟨0, 0⟩, ⟨(List.append_nil _).symm, by simp; omega⟩, by rw [hT]; simp⟩
        rintro ⟨k, es⟩ hk
        obtain ⟨B1, B2, Y, ⟨hBB, hkk⟩, rfl⟩ : ∃ (B1 B2 : List Share) (Y : Share), (B = B1 ++ B2 ∧ k = (u : Int) + (B1.length : Int)) ∧ es = (A ++ (B1 ++ Y :: B2)).map encS := hk
        (try dsimp only)
        have hesl : ((A ++ (B1 ++ Y :: B2)).map encS).length = u + B1.length + 1 + B2.length := by simp only [List.length_map, List.length_append, List.length_cons]; omega
        have hBl := congrArg List.length hBB
        rw [List.length_append] at hBl
        by_cases hku : (u : Int) < k
        · obtain ⟨B3, y1, rfl⟩ := last_ex (l := B1) (by omega)
          have hl3 : (B3 ++ [y1]).length = B3.length + 1 := by rw [List.length_append]; rfl
          rw [hl3] at hkk hesl
          have q1 : A ++ ((B3 ++ [y1]) ++ Y :: B2) = (A ++ B3) ++ y1 :: (Y :: B2) := by simp
          have q2 : A ++ ((B3 ++ [y1]) ++ Y :: B2) = (A ++ B3 ++ [y1]) ++ Y :: B2 := by simp
          have n1 : (k - 1).toNat = (A ++ B3).length := by rw [List.length_append]; omega
          have n2 : k.toNat = (A ++ B3 ++ [y1]).length := by simp only [List.length_append, List.length_cons, List.length_nil]; omega
          have gz : ((A ++ ((B3 ++ [y1]) ++ Y :: B2)).map encS)[(k - 1).toNat]? = some (encS y1) := get_share (by rw [q1, n1]; exact mid_get _ _ _)
          have gy : ((A ++ ((B3 ++ [y1]) ++ Y :: B2)).map encS)[k.toNat]? = some (encS Y) := get_share (by rw [q2, n2]; exact mid_get _ _ _)
          have hset : ((A ++ ((B3 ++ [y1]) ++ Y :: B2)).map encS).set k.toNat [.int .i64 y1.o, .int .i64 y1.a] = (A ++ (B3 ++ y1 :: (y1 :: B2))).map encS := by rw [map_setS, q2, n2, mid_set]; simp
          repeat' ((conv => whnf); first | (refine ⟨fun h => ?_, fun h => ?_⟩ <;> try (exfalso; first | omega | exact absurd h (by decide) | exact h rfl)) | refine get_at gz ?_ | refine get_at gy ?_ | (refine ⟨(_, _), ⟨?_, by (try dsimp only); omega⟩, [], ⟨⟨rfl, rfl⟩, ⟨⟨rfl, rfl⟩, ⟨⟨rfl, rfl⟩, ⟨⟨rfl, rfl⟩, ⟨⟨rfl, rfl⟩, trivial⟩⟩⟩⟩⟩, ⟨⟨rfl, rfl, rfl⟩, ⟨⟨rfl, rfl, rfl⟩, trivial⟩⟩, rfl, rfl, rfl⟩; (try dsimp only); exact ⟨B3, y1 :: B2, y1, ⟨by rw [hBB]; simp, by omega⟩, hset⟩) | refine ⟨⟨by omega, by omega⟩, ?_⟩ | fail)
        · have hB1 : B1 = [] := List.eq_nil_of_length_eq_zero (by omega)
          subst hB1
          rw [List.nil_append] at hBB
          subst hBB
          rw [drop_of hx] at hadd
          have hpe : plusF (amt ((a ++ b).take i) x.o) x.a = plusF 0 x.a := by rw [hz0]
          have hun : (u : Int).toNat = A.length := by rw [Int.toNat_natCast, hAl]
          have gy : ((A ++ ([] ++ Y :: B)).map encS)[(u : Int).toNat]? = some (encS Y) := get_share (by rw [hun]; exact mid_get _ _ _)
          have gz : (((A ++ ([] ++ Y :: B)).map encS).set (u : Int).toNat [.int .i64 x.o, .int .i64 0])[(u : Int).toNat]? = some [.int .i64 x.o, .int .i64 0] := List.getElem?_set_self (by rw [hesl, Int.toNat_natCast]; omega)
          cases hp : plusF 0 x.a with
          | none =>
            have hbad := addO_bad hadd (hpe.trans hp)
            repeat' ((conv => whnf); first | (refine ⟨fun h => ?_, fun h => ?_⟩ <;> try (exfalso; first | omega | exact absurd h (by decide) | exact h rfl)) | refine get_at gx ?_ | refine get_at gy ?_ | refine get_at gz ?_ | (refine ⟨_, more_h, (0, x.a), (by show -1099511627776 ≤ (0 : Int) ∧ (0 : Int) ≤ 1099511627776; omega), leVs_of_eq rfl, .inl rfl, rfl, ?_⟩; show norm (optT (plusF 0 x.a)) _; rw [hp]) | refine ⟨⟨by omega, by omega⟩, ?_⟩ | refine ⟨⟨by omega, by (rw [List.length_set]; omega)⟩, ?_⟩ | fail | fail)
            all_goals (refine ⟨[], rfl, trivial, ?_⟩; show leR _ (addT a b); unfold addT; rw [hbad]; exact ⟨rfl, rfl, trivial⟩)
          | some v =>
            obtain ⟨ks', hs', _⟩ := hs.step (hpe.trans hp)
            have hadd' := addO_step hadd (hpe.trans hp)
            rw [← take_snoc _ i x hx] at hs' hadd'
            have hv : v = 0 + x.a := by
              unfold plusF at hp
              split at hp
              · cases hp
              · cases hp; rfl
            have hset : (((A ++ ([] ++ Y :: B)).map encS).set (u : Int).toNat [.int .i64 x.o, .int .i64 0]).set (u : Int).toNat [.int .i64 x.o, .int .i64 v] = (tabL ((a ++ b).take (i + 1))).map encS := by
              rw [List.set_set, map_setS _ _ ⟨x.o, v⟩, hun, List.nil_append, mid_set, htab, hv]
            repeat' ((conv => whnf); first | (refine ⟨fun h => ?_, fun h => ?_⟩ <;> try (exfalso; first | omega | exact absurd h (by decide) | exact h rfl)) | refine get_at gx ?_ | refine get_at gy ?_ | refine get_at gz ?_ | (refine ⟨_, more_h, (0, x.a), (by show -1099511627776 ≤ (0 : Int) ∧ (0 : Int) ≤ 1099511627776; omega), leVs_of_eq rfl, .inl rfl, rfl, ?_⟩; show norm (optT (plusF 0 x.a)) _; rw [hp]) | (refine ⟨(i + 1, _, _), ⟨?_, by (try dsimp only); omega⟩, [], ⟨⟨rfl, rfl⟩, ⟨⟨rfl, rfl⟩, ⟨⟨rfl, rfl⟩, trivial⟩⟩⟩, ⟨⟨rfl, rfl, rfl⟩, ⟨⟨rfl, rfl, rfl⟩, trivial⟩⟩, rfl, rfl, rfl⟩; (try dsimp only); exact ⟨ks', ⟨by omega, hs'⟩, rfl, hset, hadd'⟩) | refine ⟨⟨by omega, by omega⟩, ?_⟩ | refine ⟨⟨by omega, by (rw [List.length_set]; omega)⟩, ?_⟩ | fail)
    · have hB : ∀ z ∈ (tabL ((a ++ b).take i)).drop u, x.o < z.o := by
        intro z hz
        rw [List.drop_eq_nil_of_le (by omega)] at hz; simp at hz
      have hT : tabL ((a ++ b).take i) = (tabL ((a ++ b).take i)).take u ++ (tabL ((a ++ b).take i)).drop u := (List.take_append_drop _ _).symm
      have hAl : ((tabL ((a ++ b).take i)).take u).length = u := by rw [List.length_take]; omega
      have hz0 : amt ((a ++ b).take i) x.o = 0 := tab_new fun z hz => by
        rw [hT] at hz
        rcases List.mem_append.1 hz with h | h
        · have := hA z h; omega
        · have := hB z h; omega
      have htab := tab_split hT hA hB
      rw [← take_snoc _ i x hx] at htab
      have hTl := congrArg List.length hT
      rw [List.length_append, hAl] at hTl
      obtain ⟨A, hAe⟩ : ∃ A, A = (tabL ((a ++ b).take i)).take u := ⟨_, rfl⟩
      obtain ⟨B, hBe⟩ : ∃ B, B = (tabL ((a ++ b).take i)).drop u := ⟨_, rfl⟩
      rw [← hAe] at hAl
      rw [← hBe] at hTl
      rw [← hAe, ← hBe] at htab hT
      repeat' ((conv => whnf); first | (refine ⟨fun h => ?_, fun h => ?_⟩ <;> try (exfalso; first | omega | exact absurd h (by decide) | exact h rfl)) | refine get_at gx ?_ | refine ⟨⟨by omega, by omega⟩, ?_⟩ | (refine ⟨⟨by simp only [List.length_cons, List.length_nil]; omega, by simp only [List.length_cons, List.length_nil]; omega⟩, ?_⟩) | (refine ⟨⟨by (simp only [List.length_append, List.length_cons, List.length_nil]; omega), by (simp only [List.length_append, List.length_cons, List.length_nil]; omega)⟩, ?_⟩) | fail | fail)
      refine ⟨Int × (List (List CV)), fun xq => ⟨[(6, .osl 0), (7, .osl 1), (8, I i), (9, I u), (10, I xq.1)], [(0, .row 56 2 ((a ++ b).map encS)), (1, .row 56 2 xq.2)], 2⟩, fun xq => ∃ (B1 B2 : List Share) (Y : Share), (B = B1 ++ B2 ∧ xq.1 = (u : Int) + (B1.length : Int)) ∧ xq.2 = (A ++ (B1 ++ Y :: B2)).map encS, fun xq => (xq.1 - u).toNat, ⟨(_, _), ?_, [(0, 0), (1, 2)], ⟨⟨rfl, rfl⟩, ⟨⟨rfl, rfl⟩, ⟨⟨rfl, rfl⟩, ⟨⟨rfl, rfl⟩, ⟨⟨rfl, rfl⟩, trivial⟩⟩⟩⟩⟩, ⟨⟨rfl, rfl, rfl⟩, ⟨⟨rfl, rfl, rfl⟩, trivial⟩⟩, rfl, rfl, rfl⟩, ?_⟩
      · (try dsimp only); exact ⟨B, [], ⟨0, 0⟩, ⟨(List.append_nil _).symm, by simp; omega⟩, by rw [hT]; simp⟩
      rintro ⟨k, es⟩ hk
      obtain ⟨B1, B2, Y, ⟨hBB, hkk⟩, rfl⟩ : ∃ (B1 B2 : List Share) (Y : Share), (B = B1 ++ B2 ∧ k = (u : Int) + (B1.length : Int)) ∧ es = (A ++ (B1 ++ Y :: B2)).map encS := hk
      (try dsimp only)
      have hesl : ((A ++ (B1 ++ Y :: B2)).map encS).length = u + B1.length + 1 + B2.length := by simp only [List.length_map, List.length_append, List.length_cons]; omega
      have hBl := congrArg List.length hBB
      rw [List.length_append] at hBl
      by_cases hku : (u : Int) < k
      · obtain ⟨B3, y1, rfl⟩ := last_ex (l := B1) (by omega)
        have hl3 : (B3 ++ [y1]).length = B3.length + 1 := by rw [List.length_append]; rfl
        rw [hl3] at hkk hesl
        have q1 : A ++ ((B3 ++ [y1]) ++ Y :: B2) = (A ++ B3) ++ y1 :: (Y :: B2) := by simp
        have q2 : A ++ ((B3 ++ [y1]) ++ Y :: B2) = (A ++ B3 ++ [y1]) ++ Y :: B2 := by simp
        have n1 : (k - 1).toNat = (A ++ B3).length := by rw [List.length_append]; omega
        have n2 : k.toNat = (A ++ B3 ++ [y1]).length := by simp only [List.length_append, List.length_cons, List.length_nil]; omega
        have gz : ((A ++ ((B3 ++ [y1]) ++ Y :: B2)).map encS)[(k - 1).toNat]? = some (encS y1) := get_share (by rw [q1, n1]; exact mid_get _ _ _)
        have gy : ((A ++ ((B3 ++ [y1]) ++ Y :: B2)).map encS)[k.toNat]? = some (encS Y) := get_share (by rw [q2, n2]; exact mid_get _ _ _)
        have hset : ((A ++ ((B3 ++ [y1]) ++ Y :: B2)).map encS).set k.toNat [.int .i64 y1.o, .int .i64 y1.a] = (A ++ (B3 ++ y1 :: (y1 :: B2))).map encS := by rw [map_setS, q2, n2, mid_set]; simp
        repeat' ((conv => whnf); first | (refine ⟨fun h => ?_, fun h => ?_⟩ <;> try (exfalso; first | omega | exact absurd h (by decide) | exact h rfl)) | refine get_at gz ?_ | refine get_at gy ?_ | (refine ⟨(_, _), ⟨?_, by (try dsimp only); omega⟩, [], ⟨⟨rfl, rfl⟩, ⟨⟨rfl, rfl⟩, ⟨⟨rfl, rfl⟩, ⟨⟨rfl, rfl⟩, ⟨⟨rfl, rfl⟩, trivial⟩⟩⟩⟩⟩, ⟨⟨rfl, rfl, rfl⟩, ⟨⟨rfl, rfl, rfl⟩, trivial⟩⟩, rfl, rfl, rfl⟩; (try dsimp only); exact ⟨B3, y1 :: B2, y1, ⟨by rw [hBB]; simp, by omega⟩, hset⟩) | refine ⟨⟨by omega, by omega⟩, ?_⟩ | fail)
      · have hB1 : B1 = [] := List.eq_nil_of_length_eq_zero (by omega)
        subst hB1
        rw [List.nil_append] at hBB
        subst hBB
        rw [drop_of hx] at hadd
        have hpe : plusF (amt ((a ++ b).take i) x.o) x.a = plusF 0 x.a := by rw [hz0]
        have hun : (u : Int).toNat = A.length := by rw [Int.toNat_natCast, hAl]
        have gy : ((A ++ ([] ++ Y :: B)).map encS)[(u : Int).toNat]? = some (encS Y) := get_share (by rw [hun]; exact mid_get _ _ _)
        have gz : (((A ++ ([] ++ Y :: B)).map encS).set (u : Int).toNat [.int .i64 x.o, .int .i64 0])[(u : Int).toNat]? = some [.int .i64 x.o, .int .i64 0] := List.getElem?_set_self (by rw [hesl, Int.toNat_natCast]; omega)
        cases hp : plusF 0 x.a with
        | none =>
          have hbad := addO_bad hadd (hpe.trans hp)
          repeat' ((conv => whnf); first | (refine ⟨fun h => ?_, fun h => ?_⟩ <;> try (exfalso; first | omega | exact absurd h (by decide) | exact h rfl)) | refine get_at gx ?_ | refine get_at gy ?_ | refine get_at gz ?_ | (refine ⟨_, more_h, (0, x.a), (by show -1099511627776 ≤ (0 : Int) ∧ (0 : Int) ≤ 1099511627776; omega), leVs_of_eq rfl, .inl rfl, rfl, ?_⟩; show norm (optT (plusF 0 x.a)) _; rw [hp]) | refine ⟨⟨by omega, by omega⟩, ?_⟩ | refine ⟨⟨by omega, by (rw [List.length_set]; omega)⟩, ?_⟩ | fail | fail)
          all_goals (refine ⟨[], rfl, trivial, ?_⟩; show leR _ (addT a b); unfold addT; rw [hbad]; exact ⟨rfl, rfl, trivial⟩)
        | some v =>
          obtain ⟨ks', hs', _⟩ := hs.step (hpe.trans hp)
          have hadd' := addO_step hadd (hpe.trans hp)
          rw [← take_snoc _ i x hx] at hs' hadd'
          have hv : v = 0 + x.a := by
            unfold plusF at hp
            split at hp
            · cases hp
            · cases hp; rfl
          have hset : (((A ++ ([] ++ Y :: B)).map encS).set (u : Int).toNat [.int .i64 x.o, .int .i64 0]).set (u : Int).toNat [.int .i64 x.o, .int .i64 v] = (tabL ((a ++ b).take (i + 1))).map encS := by
            rw [List.set_set, map_setS _ _ ⟨x.o, v⟩, hun, List.nil_append, mid_set, htab, hv]
          repeat' ((conv => whnf); first | (refine ⟨fun h => ?_, fun h => ?_⟩ <;> try (exfalso; first | omega | exact absurd h (by decide) | exact h rfl)) | refine get_at gx ?_ | refine get_at gy ?_ | refine get_at gz ?_ | (refine ⟨_, more_h, (0, x.a), (by show -1099511627776 ≤ (0 : Int) ∧ (0 : Int) ≤ 1099511627776; omega), leVs_of_eq rfl, .inl rfl, rfl, ?_⟩; show norm (optT (plusF 0 x.a)) _; rw [hp]) | (refine ⟨(i + 1, _, _), ⟨?_, by (try dsimp only); omega⟩, [], ⟨⟨rfl, rfl⟩, ⟨⟨rfl, rfl⟩, ⟨⟨rfl, rfl⟩, trivial⟩⟩⟩, ⟨⟨rfl, rfl, rfl⟩, ⟨⟨rfl, rfl, rfl⟩, trivial⟩⟩, rfl, rfl, rfl⟩; (try dsimp only); exact ⟨ks', ⟨by omega, hs'⟩, rfl, hset, hadd'⟩) | refine ⟨⟨by omega, by omega⟩, ?_⟩ | refine ⟨⟨by omega, by (rw [List.length_set]; omega)⟩, ?_⟩ | fail)
  · have hti : (a ++ b).take i = a ++ b := List.take_of_length_le (by omega)
    have hdi : (a ++ b).drop i = [] := List.drop_eq_nil_of_le (by omega)
    rw [hti, hdi] at hadd
    have hgood : addO [] (a ++ b) = true := by rw [← hadd]; rfl
    rw [hti] at htl1 ⊢
    have htl' := tab_len (a ++ b)
    repeat' ((conv => whnf); first | (refine ⟨fun h => ?_, fun h => ?_⟩ <;> try (exfalso; first | omega | exact absurd h (by decide) | exact h rfl)) | fail | fail)
    refine ⟨Nat × (List (List CV)), fun xq => ⟨[(7, .osl 0), (13, .osl 1), (14, I xq.1)], [(0, .row 56 2 ((tabL (a ++ b)).map encS)), (1, .row 56 2 xq.2)], 2⟩, fun xq => xq.1 ≤ (tabL (a ++ b)).length ∧ xq.2 = (few0 ((tabL (a ++ b)).take xq.1)).map encS, fun xq => (tabL (a ++ b)).length - xq.1, ⟨(0, _), ?_, [(0, 1), (1, 2)], ⟨⟨rfl, rfl⟩, ⟨⟨rfl, rfl⟩, ⟨⟨rfl, rfl⟩, trivial⟩⟩⟩, ⟨⟨rfl, rfl, rfl⟩, ⟨⟨rfl, rfl, rfl⟩, trivial⟩⟩, rfl, rfl, rfl⟩, ?_⟩
    · (try dsimp only); exact ⟨Nat.zero_le _, rfl⟩
    rintro ⟨k, es⟩ hk
    obtain ⟨hk, rfl⟩ : k ≤ (tabL (a ++ b)).length ∧ es = (few0 ((tabL (a ++ b)).take k)).map encS := hk
    (try dsimp only)
    have hfl := few0_len ((tabL (a ++ b)).take k)
    have hfl1 : ((few0 ((tabL (a ++ b)).take k)).map encS).length = (few0 ((tabL (a ++ b)).take k)).length := List.length_map ..
    rw [List.length_take] at hfl
    by_cases hkk : k < (tabL (a ++ b)).length
    · obtain ⟨y, hy⟩ := getElem_some hkk
      have gy : ((tabL (a ++ b)).map encS)[(k : Int).toNat]? = some (encS y) := get_share (by rw [Int.toNat_natCast]; exact hy)
      by_cases h0 : y.a = 0
      · have hst := few0_no hy h0
        repeat' ((conv => whnf); first | (refine ⟨fun h => ?_, fun h => ?_⟩ <;> try (exfalso; first | omega | exact absurd h (by decide) | exact h rfl)) | refine get_at gy ?_ | (refine ⟨(k + 1, _), ⟨?_, by (try dsimp only); omega⟩, [], ⟨⟨rfl, rfl⟩, ⟨⟨rfl, rfl⟩, ⟨⟨rfl, rfl⟩, trivial⟩⟩⟩, ⟨⟨rfl, rfl, rfl⟩, ⟨⟨rfl, rfl, rfl⟩, trivial⟩⟩, rfl, rfl, rfl⟩; (try dsimp only); exact ⟨by omega, by rw [hst]⟩) | refine ⟨⟨by omega, by omega⟩, ?_⟩ | fail)
      · have hst := few0_yes hy h0
        repeat' ((conv => whnf); first | (refine ⟨fun h => ?_, fun h => ?_⟩ <;> try (exfalso; first | omega | exact absurd h (by decide) | exact h rfl)) | refine get_at gy ?_ | (refine ⟨(k + 1, _), ⟨?_, by (try dsimp only); omega⟩, [(0, 0), (1, 2)], ⟨⟨rfl, rfl⟩, ⟨⟨rfl, rfl⟩, ⟨⟨rfl, rfl⟩, trivial⟩⟩⟩, ⟨⟨rfl, rfl, rfl⟩, ⟨⟨rfl, rfl, rfl⟩, trivial⟩⟩, rfl, rfl, rfl⟩; (try dsimp only); exact ⟨by omega, by rw [hst, List.map_append]; rfl⟩) | refine ⟨⟨by omega, by omega⟩, ?_⟩ | (refine ⟨⟨by simp only [List.length_cons, List.length_nil]; omega, by simp only [List.length_cons, List.length_nil]; omega⟩, ?_⟩) | fail)
    · rw [take_end hkk]
      repeat' ((conv => whnf); first | (refine ⟨fun h => ?_, fun h => ?_⟩ <;> try (exfalso; first | omega | exact absurd h (by decide) | exact h rfl)) | fail | fail)
      all_goals (refine ⟨[], rfl, trivial, ?_⟩; show leR _ (addT a b); unfold addT; rw [hgood]; exact ⟨rfl, rfl, trivial⟩)
theorem radd_h : Holds Try.prog 36 raddS := holds_of mix Try.func36 raddLow (fun _ => rfl) raddV

end Go.Proofs.Ytbglmocgijlomaa

/- What the laws of Split ask: plain. No program in sight. -/
namespace Go.Proofs.Ytbglmocgijlomaa
open Go.RowKit

theorem perm_sum {l l' : List Int} (h : l.Perm l') : l.sum = l'.sum := by
  induction h with
  | nil => rfl
  | cons x _ ih => simp only [List.sum_cons, ih]
  | swap x y l => simp only [List.sum_cons]; omega
  | trans _ _ h1 h2 => exact h1.trans h2
theorem rL_keys (a : Int) (ws : List Int) : (rL a ws).sum = ((ordL (rL a ws)).map (keyR (rL a ws))).sum := by
  have h1 : rL a ws = (idxL (rL a ws).length).map (keyR (rL a ws)) := by
    apply List.ext_getElem?
    intro i
    by_cases h : i < (rL a ws).length
    · obtain ⟨x, hx⟩ := getElem_some h
      rw [List.getElem?_map, idxL_get h, hx]
      show _ = some (keyR (rL a ws) i)
      simp [keyR, List.getD, hx]
    · rw [List.getElem?_eq_none (by omega), List.getElem?_eq_none (by rw [List.length_map, idxL_len]; omega)]
  rw [perm_sum ((ordL_sorted (rL a ws)).1.map (keyR (rL a ws))), ← h1]
theorem sum_le {B : Int} : ∀ {l : List Int}, (∀ x ∈ l, x ≤ B) → l.sum ≤ B * l.length
  | [], _ => by simp
  | x :: r, h => by
    have h1 := sum_le (l := r) fun y hy => h y (by simp [hy])
    have h2 := h x (by simp)
    simp only [List.sum_cons, List.length_cons, Int.natCast_add, Int.mul_add]
    omega
section
variable {a : Int} {ws : List Int} (g : Good a ws)
theorem ordN0 (a : Int) (ws : List Int) : ∀ i ∈ (ordL (rL a ws)).take (leftN a ws), 0 ≤ i := fun i hi => by
  obtain ⟨k, _, rfl⟩ := ordL_mem (List.mem_of_mem_take hi); omega
theorem ordNd (a : Int) (ws : List Int) : ((ordL (rL a ws)).take (leftN a ws)).Nodup := (ordL_nodup _).sublist (List.take_sublist _ _)
theorem parts_get {j : Nat} {w : Int} (h : ws[j]? = some w) : (partsL a ws)[j]? = some (a * w / ws.sum + if (j : Int) ∈ (ordL (rL a ws)).take (leftN a ws) then 1 else 0) :=
  incs_get _ _ j _ (ordNd a ws) (ordN0 a ws) (qL_get h)
theorem key_at {j : Nat} {w : Int} (h : ws[j]? = some w) : keyR (rL a ws) j = a * w % ws.sum := by
  simp [keyR, List.getD, rL_get h]
include g
/-- Who has one more has a rest. -/
theorem chosen_pos {j : Nat} {w : Int} (hw : ws[j]? = some w) (hm : (j : Int) ∈ (ordL (rL a ws)).take (leftN a ws)) : a * w % ws.sum ≠ 0 := by
  intro h0
  obtain ⟨p, hp⟩ := List.getElem?_of_mem hm
  rw [List.getElem?_take] at hp
  split at hp
  · rename_i hpl
    have hs := g.s0
    have hrs := rL_sum a ws
    obtain ⟨hle, hlt⟩ := g.left
    rw [← hle, rL_keys, ← List.take_append_drop p (ordL (rL a ws)), List.map_append, List.sum_append] at hrs
    have h1 : (((ordL (rL a ws)).drop p).map (keyR (rL a ws))).sum ≤ 0 * ((((ordL (rL a ws)).drop p).map (keyR (rL a ws))).length : Int) := by
      refine sum_le fun x hx => ?_
      obtain ⟨y, hy, rfl⟩ := List.mem_map.1 hx
      obtain ⟨q, hq⟩ := List.getElem?_of_mem hy
      rw [List.getElem?_drop] at hq
      have := key_mono (ordL_sorted (rL a ws)).2 hp hq (by omega)
      rw [key_at hw, h0] at this
      exact this
    have h2 : (((ordL (rL a ws)).take p).map (keyR (rL a ws))).sum ≤ ws.sum * ((((ordL (rL a ws)).take p).map (keyR (rL a ws))).length : Int) := by
      refine sum_le fun x hx => ?_
      obtain ⟨y, hy, rfl⟩ := List.mem_map.1 hx
      obtain ⟨i, hi, rfl⟩ := ordL_mem (List.mem_of_mem_take hy)
      rw [rL_len] at hi
      obtain ⟨v, hv⟩ := getElem_some hi
      rw [key_at hv]
      have := g.r v; omega
    rw [List.length_map, List.length_take, ordL_len, rL_len] at h2
    have h3 : ws.sum * ((min p ws.length : Nat) : Int) ≤ ws.sum * ((leftN a ws : Int) - 1) := Int.mul_le_mul_of_nonneg_left (by omega) (by omega)
    rw [Int.mul_sub, Int.mul_one, Int.mul_comm ws.sum (leftN a ws : Int)] at h3
    omega
  · cases hp
theorem parts_ok {j : Nat} {w : Int} (hw : ws[j]? = some w) {p : Int} (hp : (partsL a ws)[j]? = some p) : okP a ws.sum w p := by
  rw [parts_get hw] at hp
  cases hp
  by_cases h : (j : Int) ∈ (ordL (rL a ws)).take (leftN a ws)
  · rw [if_pos h]; exact .inr ⟨chosen_pos g hw h, rfl⟩
  · rw [if_neg h]; exact .inl (by omega)
theorem fair_parts : fairP a ws (partsL a ws) := by
  refine ⟨partsL_len a ws, fun x hx => ?_, g.sum⟩
  obtain ⟨j, hj⟩ := List.getElem?_of_mem hx
  obtain ⟨h1, h2⟩ := List.getElem?_zip_eq_some.1 hj
  exact parts_ok g h1 h2
omit g in
theorem ord_ahead {x y : Int} {m : Nat} (hb : bef (keyR (rL a ws)) x y) (hx : x ∈ ordL (rL a ws)) (hy : y ∈ (ordL (rL a ws)).take m) : x ∈ (ordL (rL a ws)).take m := by
  obtain ⟨p, hp⟩ := List.getElem?_of_mem hy
  rw [List.getElem?_take] at hp
  split at hp
  · rename_i hpm
    obtain ⟨q, hq⟩ := List.getElem?_of_mem hx
    by_cases h : q < m
    · exact List.mem_of_getElem? (i := q) (by rw [List.getElem?_take, if_pos h]; exact hq)
    · obtain ⟨p1, e1⟩ := List.getElem?_eq_some_iff.1 hp
      obtain ⟨p2, e2⟩ := List.getElem?_eq_some_iff.1 hq
      have := List.pairwise_iff_getElem.1 (ordL_sorted (rL a ws)).2 p q p1 p2 (by omega)
      rw [e1, e2] at this
      rw [bef_asymm hb this]; exact hy
  · cases hp
/-- A greater weight has no smaller part, and of two that are the same the first has no smaller one. -/
theorem parts_mono {u v : Nat} {wu wv pu pv : Int} (hu : ws[u]? = some wu) (hv : ws[v]? = some wv) (hpu : (partsL a ws)[u]? = some pu) (hpv : (partsL a ws)[v]? = some pv) (hle : wu ≤ wv) (h : wu < wv ∨ v < u) : pu ≤ pv := by
  rw [parts_get hu] at hpu
  rw [parts_get hv] at hpv
  cases hpu; cases hpv
  have hs := g.s0
  have ha := g.a0
  have hm : a * wu ≤ a * wv := Int.mul_le_mul_of_nonneg_left hle ha
  have hq : a * wu / ws.sum ≤ a * wv / ws.sum := Int.ediv_le_ediv hs hm
  have e1 := Int.mul_ediv_add_emod (a * wu) ws.sum
  have e2 := Int.mul_ediv_add_emod (a * wv) ws.sum
  by_cases hlt : a * wu / ws.sum < a * wv / ws.sum
  · split <;> split <;> omega
  have heq : a * wu / ws.sum = a * wv / ws.sum := by omega
  by_cases hcu : (u : Int) ∈ (ordL (rL a ws)).take (leftN a ws)
  · have hr := chosen_pos g hu hcu
    have hbf : bef (keyR (rL a ws)) v u := by
      unfold bef
      rw [key_at hu, key_at hv]
      rw [heq] at e1
      by_cases hlt2 : a * wu % ws.sum < a * wv % ws.sum
      · exact .inl hlt2
      · have hme : a * wu = a * wv := by omega
        refine .inr ⟨by omega, ?_⟩
        rcases h with h | h
        · exfalso
          have ha0 : a = 0 := by
            by_cases h0 : a = 0
            · exact h0
            · have := Int.mul_lt_mul_of_pos_left h (show 0 < a by omega)
              omega
          rw [ha0, Int.zero_mul, Int.zero_emod] at hr
          exact hr rfl
        · omega
    have hvo : (v : Int) ∈ ordL (rL a ws) := (ordL_sorted (rL a ws)).1.mem_iff.2 (idxL_mem.2 ⟨v, by rw [rL_len]; exact (List.getElem?_eq_some_iff.1 hv).1, rfl⟩)
    rw [if_pos hcu, if_pos (ord_ahead hbf hvo hcu), heq]; exact Int.le_refl _
  · rw [if_neg hcu]
    split <;> omega
end

/-! ### equal weights -/
theorem sum_rep (w : Int) : ∀ n : Nat, (List.replicate n w).sum = n * w
  | 0 => by simp
  | n + 1 => by rw [List.replicate_succ, List.sum_cons, sum_rep w n, Int.natCast_add, Int.add_mul]; omega
theorem idxL_take {m n : Nat} (h : m ≤ n) : (idxL n).take m = idxL m := by
  apply List.ext_getElem?
  intro i
  rw [List.getElem?_take]
  by_cases hi : i < m
  · rw [if_pos hi, idxL_get hi, idxL_get (by omega)]
  · rw [if_neg hi, List.getElem?_eq_none (by rw [idxL_len]; omega)]
/-! ### sums -/
theorem amt_comm (a b : List Share) : amt (a ++ b) = amt (b ++ a) := by
  funext o
  simp only [amt, List.map_append, List.sum_append]; omega
theorem fewL_comm (a b : List Share) : fewL (a ++ b) = fewL (b ++ a) := by
  have hk : keysL (a ++ b) = keysL (b ++ a) := lt_uniq (keysL_spec _).1 (keysL_spec _).1 fun z => by
    rw [(keysL_spec _).2, (keysL_spec _).2, List.map_append, List.map_append, List.mem_append, List.mem_append]
    exact ⟨Or.symm, Or.symm⟩
  rw [fewL, fewL, tabL, tabL, hk, amt_comm]
theorem fewL_lt (p : List Share) : (fewL p).Pairwise fun x y => x.o < y.o := (tab_lt p).sublist List.filter_sublist
theorem fewL_nz {p : List Share} {x : Share} (h : x ∈ fewL p) : x.a ≠ 0 := of_decide_eq_true (List.mem_filter.1 h).2
theorem one_sum {o c : Int} : ∀ {ks : List Int}, ks.Nodup → o ∈ ks → (ks.map fun z => if o = z then c else 0).sum = c
  | [], _, h => by simp at h
  | y :: r, hn, h => by
    obtain ⟨h1, h2⟩ := List.nodup_cons.1 hn
    rw [List.map_cons, List.sum_cons]
    by_cases e : o = y
    · subst e
      rw [if_pos rfl]
      have : ∀ {l : List Int}, o ∉ l → (l.map fun z => if o = z then c else 0).sum = 0 := by
        intro l
        induction l with
        | nil => intro _; rfl
        | cons z t ih => intro h; rw [List.map_cons, List.sum_cons, if_neg (fun e => h (by simp [e])), ih fun e => h (by simp [e])]; rfl
      rw [this h1]; omega
    · rw [if_neg e, one_sum h2 (by rcases List.mem_cons.1 h with h | h; exact absurd h e; exact h)]; omega
theorem zero_sum : ∀ l : List Int, (l.map fun _ => (0 : Int)).sum = 0
  | [] => rfl
  | y :: r => by rw [List.map_cons, List.sum_cons, zero_sum r]; rfl
theorem amt_sum {ks : List Int} (hn : ks.Nodup) : ∀ {p : List Share}, (∀ x ∈ p, x.o ∈ ks) → (ks.map (amt p)).sum = (p.map fun x : Share => x.a).sum
  | [], _ => by
    have : ks.map (amt []) = ks.map fun _ => 0 := rfl
    rw [this, zero_sum]; rfl
  | x :: r, h => by
    have h1 := amt_sum hn (p := r) fun y hy => h y (by simp [hy])
    have h2 := one_sum (c := x.a) hn (h x (by simp))
    have h3 : ∀ l : List Int, (l.map (amt (x :: r))).sum = (l.map fun z => if x.o = z then x.a else 0).sum + (l.map (amt r)).sum := by
      intro l
      induction l with
      | nil => rfl
      | cons z t ih =>
        have e : amt (x :: r) z = (if x.o = z then x.a else 0) + amt r z := by simp only [amt, List.map_cons, List.sum_cons]
        simp only [List.map_cons, List.sum_cons, ih, e]; omega
    rw [h3, h1, h2, List.map_cons, List.sum_cons]
theorem nz_sum : ∀ l : List Share, ((l.filter fun x => decide (x.a ≠ 0)).map fun x : Share => x.a).sum = (l.map fun x : Share => x.a).sum
  | [] => rfl
  | x :: r => by
    have ih := nz_sum r
    rw [List.filter_cons]
    split
    · rw [List.map_cons, List.map_cons, List.sum_cons, List.sum_cons, ih]
    · rename_i h
      simp at h
      rw [ih, List.map_cons, List.sum_cons, h]; omega
theorem few_sum (p : List Share) : ((fewL p).map fun x : Share => x.a).sum = (p.map fun x : Share => x.a).sum := by
  rw [fewL, nz_sum, tabL, List.map_map]
  have h1 := (keysL_spec p)
  exact amt_sum (h1.1.imp fun h => by omega) fun x hx => (h1.2 _).2 (List.mem_map.2 ⟨x, hx, rfl⟩)
theorem runO_sum : ∀ {l : List Int} {s v : Int}, runO s l = some v → -1099511627776 ≤ s ∧ s ≤ 1099511627776 → v = s + l.sum ∧ -1099511627776 ≤ v ∧ v ≤ 1099511627776
  | [], s, v, h, hb => by simp [runO] at h; subst h; simp; exact hb
  | x :: r, s, v, h, hb => by
    rw [runO] at h
    cases hp : plusF s x with
    | none => rw [hp] at h; cases h
    | some t =>
      rw [hp] at h
      have ht : t = s + x := by
        unfold plusF at hp
        split at hp
        · cases hp
        · cases hp; rfl
      have := runO_sum (l := r) h (plusF_bnd hp)
      rw [List.sum_cons]; omega
theorem sums_total {a b : List Share} {n m k : Int} (hn : runO 0 (a.map fun x : Share => x.a) = some n) (hm : runO 0 (b.map fun x : Share => x.a) = some m) (hk : runO 0 ((fewL (a ++ b)).map fun x : Share => x.a) = some k) : k = n + m := by
  have h1 := (runO_sum hn (by omega)).1
  have h2 := (runO_sum hm (by omega)).1
  have h3 := (runO_sum hk (by omega)).1
  rw [few_sum, List.map_append, List.sum_append] at h3
  omega

/-! ### a weight of 0, a single weight -/
theorem alone_chk {a : Int} {ws : List Int} (hl : ws.length ≤ 63) : chkF a (ws ++ [0]) = chkF a ws := by
  unfold chkF
  rw [List.length_append, if_neg (by simp; omega), if_neg (show ¬ 64 < ws.length by omega)]
  congr 1
  have h1 : (∀ w ∈ ws ++ [0], okW w) ↔ ∀ w ∈ ws, okW w := by
    refine ⟨fun h w hw => h w (List.mem_append.2 (.inl hw)), fun h w hw => ?_⟩
    rcases List.mem_append.1 hw with hw | hw
    · exact h w hw
    · simp at hw; subst hw; unfold okW; omega
  have h2 : (ws ++ [0]).sum = ws.sum := by rw [List.sum_append]; simp
  rw [h2]
  by_cases h : ∀ w ∈ ws, okW w
  · rw [if_pos h, if_pos (h1.2 h)]
  · rw [if_neg h, if_neg fun e => h (h1.1 e)]
theorem incs_app : ∀ (T l : List Int) (z : List Int), (∀ i ∈ T, ∃ k : Nat, k < l.length ∧ i = k) → incs (l ++ z) T = incs l T ++ z
  | [], _, _, _ => rfl
  | i :: r, l, z, h => by
    obtain ⟨k, hk, rfl⟩ := h i (by simp)
    have h1 : incr (l ++ z) k = incr l k ++ z := by
      rw [incr, incr, Int.toNat_natCast, List.set_append_left _ _ hk, List.getD, List.getD, List.getElem?_append_left hk]
    show incs (incr (l ++ z) k) r = incs (incr l k) r ++ z
    rw [h1, incs_app r _ z fun j hj => by rw [incr_len]; exact h j (by simp [hj])]
theorem alone_parts {a : Int} {ws : List Int} (g : Good a ws) : partsL a (ws ++ [0]) = partsL a ws ++ [0] := by
  have hs : (ws ++ [0]).sum = ws.sum := by rw [List.sum_append]; simp
  have hq : qL a (ws ++ [0]) = qL a ws ++ [0] := by rw [qL, qL, hs, List.map_append]; simp
  have hr : rL a (ws ++ [0]) = rL a ws ++ [0] := by rw [rL, rL, hs, List.map_append]; simp
  have hlf : leftN a (ws ++ [0]) = leftN a ws := by rw [leftN, leftN, hq, List.sum_append]; simp
  have ho : ordL (rL a ws ++ [0]) = ordL (rL a ws) ++ [(ws.length : Int)] := by
    have h1 := ordL_sorted (rL a ws ++ [0])
    have h2 := ordL_sorted (rL a ws)
    rw [List.length_append, rL_len] at h1
    rw [rL_len] at h2
    have hi : idxL (ws.length + [(0 : Int)].length) = idxL ws.length ++ [(ws.length : Int)] := by
      show idxL (ws.length + 1) = _
      rw [idxL, idxL, List.range_succ, List.map_append]; rfl
    rw [hi] at h1
    have hk : ∀ x ∈ ordL (rL a ws), keyR (rL a ws ++ [0]) x = keyR (rL a ws) x ∧ 0 ≤ keyR (rL a ws) x ∧ x < ws.length := by
      intro x hx
      obtain ⟨i, hi, rfl⟩ := ordL_mem hx
      rw [rL_len] at hi
      obtain ⟨w, hw⟩ := getElem_some hi
      refine ⟨?_, by rw [key_at hw]; exact (g.r w).1, by omega⟩
      simp only [keyR, Int.toNat_natCast, List.getD]
      rw [List.getElem?_append_left (by rw [rL_len]; exact hi)]
    refine sorted_uniq h1 ⟨h2.1.append_right _, List.pairwise_append.2 ⟨?_, List.pairwise_singleton _ _, fun x hx y hy => ?_⟩⟩
    · refine h2.2.imp_of_mem fun {x y} hx hy h => ?_
      unfold bef at h ⊢
      rw [(hk x hx).1, (hk y hy).1]; exact h
    · simp at hy; subst hy
      have := hk x hx
      unfold bef
      have hz : keyR (rL a ws ++ [0]) (ws.length : Int) = 0 := by
        simp only [keyR, Int.toNat_natCast, List.getD]
        rw [List.getElem?_append_right (by rw [rL_len]; exact Nat.le_refl _), rL_len, Nat.sub_self]; rfl
      rw [hz]; omega
  have hl := g.left
  rw [partsL, hq, hr, hlf, ho, List.take_append_of_le_length (by rw [ordL_len, rL_len]; omega), incs_app _ _ _ fun i hi => by rw [qL_len, ← rL_len a ws]; exact ordL_mem (List.mem_of_mem_take hi)]
  rfl
theorem only_sum (v : Int) : ∀ (n i : Nat), i < n → ((List.replicate n (0 : Int)).set i v).sum = v
  | 0, i, h => by omega
  | n + 1, 0, _ => by rw [List.replicate_succ, List.set_cons_zero, List.sum_cons, sum_rep]; omega
  | n + 1, i + 1, h => by rw [List.replicate_succ, List.set_cons_succ, List.sum_cons, only_sum v n i (by omega)]; omega
theorem only_get {v : Int} {n i k : Nat} (hk : k < n) : ((List.replicate n (0 : Int)).set i v)[k]? = some (if k = i then v else 0) := by
  by_cases e : k = i
  · subst e; rw [if_pos rfl, List.getElem?_set_self (by rw [List.length_replicate]; exact hk)]
  · rw [if_neg e, List.getElem?_set_ne (by omega), List.getElem?_replicate, if_pos hk]
theorem only_parts {a v : Int} {n i : Nat} (a0 : 0 ≤ a) (a1 : a ≤ 1099511627776) (hn : n ≤ 63) (hi : i < n) (v0 : 1 ≤ v) (v1 : v ≤ 1000000000) :
    Good a ((List.replicate n (0 : Int)).set i v) ∧ partsL a ((List.replicate n (0 : Int)).set i v) = (List.replicate n (0 : Int)).set i a := by
  have hs := only_sum v n i hi
  have hmem : ∀ w ∈ (List.replicate n (0 : Int)).set i v, w = 0 ∨ w = v := by
    intro w hw
    obtain ⟨k, hk⟩ := List.getElem?_of_mem hw
    have hkl := (List.getElem?_eq_some_iff.1 hk).1
    rw [List.length_set, List.length_replicate] at hkl
    rw [only_get hkl] at hk
    cases hk
    split
    · exact .inr rfl
    · exact .inl rfl
  have g : Good a ((List.replicate n (0 : Int)).set i v) := ⟨by rw [List.length_set, List.length_replicate]; omega, a0, a1, fun w hw => by rcases hmem w hw with h | h <;> omega, by omega, by omega⟩
  refine ⟨g, ?_⟩
  have hr0 : ∀ x ∈ rL a ((List.replicate n (0 : Int)).set i v), x ≤ 0 := by
    intro x hx
    obtain ⟨w, hw, rfl⟩ := List.mem_map.1 hx
    rw [hs]
    rcases hmem w hw with rfl | rfl
    · simp
    · rw [Int.mul_emod_left]; exact Int.le_refl _
  have h1 := sum_le hr0
  rw [Int.zero_mul, rL_sum, hs] at h1
  obtain ⟨hle, hlt⟩ := g.left
  rw [← hle] at h1
  have hl0 : leftN a ((List.replicate n (0 : Int)).set i v) = 0 := by
    by_cases h : leftN a ((List.replicate n (0 : Int)).set i v) = 0
    · exact h
    · have : 1 * v ≤ (leftN a ((List.replicate n (0 : Int)).set i v) : Int) * v := Int.mul_le_mul_of_nonneg_right (by omega) (by omega)
      omega
  rw [partsL, hl0, List.take_zero]
  show qL a _ = _
  apply List.ext_getElem?
  intro k
  by_cases hk : k < n
  · rw [qL_get (only_get hk), only_get hk, hs]
    split
    · rw [Int.mul_ediv_cancel _ (by omega)]
    · simp
  · rw [List.getElem?_eq_none (by rw [qL_len, List.length_set, List.length_replicate]; omega), List.getElem?_eq_none (by rw [List.length_set, List.length_replicate]; omega)]
end Go.Proofs.Ytbglmocgijlomaa
