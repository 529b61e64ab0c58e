/- A part of the proof. -/
import Derived.Test.YtjpdaapjnpdiiaaGreatE3
import Derived.Test.YtjpdaapjnpdiiaaGreatShelf
import Derived.Test.YtjpdaapjnpdiiaaGreatProg
import Derived.Test.YtjpdaapjnpdiiaaGreatS4
import Derived.Test.YtjpdaapjnpdiiaaGreatS3
namespace Go.Proofs.YtjpdaapjnpdiiaaGreat
open Go.RowKit Go.Maps Go.Sort Go.Shelf
def anyVal (_ : Value) : Option (DataW Unit × List MemPlace) := some (.lit (.bool true), [])
def keyNum : Value → Int
 | .int _ a => a
 | _ => 0
def headI (l : List Int) : Int := l.headD 0
section
variable {P : Program} {w : World}
theorem own_of_map {k : TypeId} (hk : P.underlying k = some (.int .i64)) {b ck : Nat} {arr : Array MapEntry} {ag : Bool} {kv : List (List Int × List CV)} (hb : w.heap[b]? = some (.map arr ck)) (hbn : Born arr ck)
   (he : arr.toList.map (fun e => (e.key, e.val)) = kv.map (fun p => (encKey 0 p.1, encCell ag p.2))) (hl : kv.length ≤ 1000000) (hks : ∀ p ∈ kv, ∃ n : Int, p.1 = [n] ∧ (Lit.int .i64 n).wf = true) (hnd : (kv.map fun p => headI p.1).Nodup) :
   ∃ D0 : DataW Unit, w.ownsMap P k anyVal b kv.length D0 ∧ (intKeys D0).Perm (kv.map fun p => headI p.1) ∧ Maps.size D0 = kv.length := by
 have hlen : arr.toList.length = kv.length := by simpa using congrArg List.length he
 have hkey : arr.toList.map (fun e => e.key) = kv.map (fun p => encKey 0 p.1) := by
   have := congrArg (List.map Prod.fst) he
   simpa [List.map_map, Function.comp_def] using this
 have hnum : arr.toList.map (fun e => keyNum e.key) = kv.map (fun p => headI p.1) := by
   have := congrArg (List.map keyNum) hkey
   rw [List.map_map, List.map_map] at this
   refine this.trans (List.map_congr_left fun p hp => ?_)
   obtain ⟨n, e, _⟩ := hks p hp
   rw [Function.comp, e]; rfl
 have hform : ∀ x ∈ arr.toList, ∃ n : Int, x.key = .int .i64 n ∧ (Lit.int .i64 n).wf = true := by
   intro x hx
   have h1 : x.key ∈ kv.map (fun p => encKey 0 p.1) := by rw [← hkey]; exact List.mem_map.2 ⟨x, hx, rfl⟩
   obtain ⟨p, hp, e⟩ := List.mem_map.1 h1
   obtain ⟨n, e', hw⟩ := hks p hp
   exact ⟨n, by rw [← e, e']; rfl, hw⟩
 have hrd : ∀ x ∈ arr.toList, ∃ n : Int, x.key = .int .i64 n ∧ WideElems.rd P k anyVal x = some (.int .i64 n, .lit (.bool true)) := by
   intro x hx
   obtain ⟨n, e, hw⟩ := hform x hx
   refine ⟨n, e, ?_⟩
   unfold WideElems.rd
   rw [e, keyOf_int_mk hk hw]; rfl
 have hasz : arr.size = arr.toList.length := by simp
 have hmx : maxLen = 9223372036854775807 := rfl
 have hfit : WideElems.Fit P k anyVal arr ck := by
   refine ⟨by omega, ⟨hbn.1, hbn.2, ?_⟩, fun x hx => ?_⟩
   · have h1 : (arr.toList.map fun e => keyNum e.key).Nodup := by rw [hnum]; exact hnd
     rw [List.Nodup, List.pairwise_map] at h1 ⊢
     exact h1.imp fun h e => h (by rw [e])
   · obtain ⟨n, _, e⟩ := hrd x hx; exact ⟨_, e⟩
 refine ⟨.map ((arr.toList.map (WideElems.rg P k anyVal)).foldr DataW.insert []), ⟨arr, ck, hb, hfit, by omega, rfl⟩, ?_, ?_⟩
 · show (((arr.toList.map (WideElems.rg P k anyVal)).foldr DataW.insert []).map fun p => Go.intOf p.1).Perm _
   refine ((WideShapes.sorted_perm _).map _).trans ?_
   rw [List.map_map, ← hnum]
   refine List.Perm.of_eq (List.map_congr_left fun x hx => ?_)
   obtain ⟨n, e1, e2⟩ := hrd x hx
   rw [Function.comp, WideElems.rg_of e2, e1]; rfl
 · show ((arr.toList.map (WideElems.rg P k anyVal)).foldr DataW.insert []).length = _
   rw [(WideShapes.sorted_perm _).length_eq, List.length_map, hlen]
end
theorem keys_x (s : St) (id : Nat) {kv : List (List Int × List CV)} (hh : look s.heap id = some (.map 0 false kv)) (K : SV → St → Prop) (hK : K (.fn 60 [.bp s.nx 0]) (s.new (.box [.mp id]))) : callX Tryz.prog 32 s [.mp id] K := by
 refine ⟨fun v s' => v = .fn 60 [.bp s.nx 0] ∧ s' = s.new (.box [.mp id]), fun F w0 ι w us hm hr => ?_, fun v s' h => by obtain ⟨rfl, rfl⟩ := h; exact hK⟩
 have hr' := hr
 obtain ⟨u, ur, rfl, hu, hur⟩ := replist_cons hr
 obtain rfl := replist_nil hur
 have hu' := hu
 cases hu with
 | mp _ _ hx h1 h =>
   obtain ⟨b, c, hι, rfl⟩ := h _ _ _ hh
   refine ((callsIn_wide (n := 5)).1 (AnyZI.keys_in Tryz.keysA Fence.wide 5 trivial rfl (some b) w)).mono ?_
   rintro e w' ⟨rfl, rfl⟩
   obtain ⟨hs, hp⟩ := step_box (cs := [.mp id]) (vs := #[.map (some b)]) hm (Tryz.keysA_ren.t 23) hr' (by intro s hs; simp at hs; subst hs; rfl)
   refine ⟨_, rfl, (fun e => absurd e (by decide)), _, _, s.new (.box [.mp id]), rfl, hs, ?_, rfl, rfl⟩
   refine .fn _ _ [_] rfl fun i s v hs hv => ?_
   match i with
   | 0 => simp at hs hv; subst hs; subst hv; exact hp
   | i + 1 => simp at hs
theorem sortsA (m : Nat) : AnyZI.SortsIn Tryz.prog Tryz.sortedA_ren Fence.wide m :=
 ⟨fun blk off cap ss W hH hblk hsz => callsIn_wide.2 (AnyM.slices_Sort_int Tryz.sortA blk off cap ss W hH hblk hsz),
  fun p cap W => callsIn_wide.2 (AnyM.slices_Sort_int_none Tryz.sortA p cap W)⟩
theorem flat1 (zs : List Int) : (zs.map fun n => [CV.int .i64 n]).flatten = zs.map (CV.int .i64) := by
 induction zs with
 | nil => rfl
 | cons x r ih => rw [List.map_cons, List.flatten_cons, ih]; rfl
theorem sorted_x (s : St) (j id : Nat) {kv : List (List Int × List CV)} (hj : look s.heap j = some (.box [.mp id])) (hh : look s.heap id = some (.map 0 false kv)) (hl : kv.length ≤ 1000000) (hks : ∀ p ∈ kv, ∃ n : Int, p.1 = [n] ∧ (Lit.int .i64 n).wf = true) (hnd : (kv.map fun p => headI p.1).Nodup)
   (zs : List Int) (hz : zs = (kv.map fun p => headI p.1).mergeSort Go.leI) (K : SV → St → Prop) (hK : K (.osl s.nx) (s.new (.row 3 1 (zs.map fun n => [CV.int .i64 n])))) : callX Tryz.prog 31 s [.fn 60 [.bp j 0]] K := by
 refine ⟨fun v s' => v = .osl s.nx ∧ s' = s.new (.row 3 1 (zs.map fun n => [CV.int .i64 n])), fun F w0 ι w us hm hr => ?_, fun v s' h => by obtain ⟨rfl, rfl⟩ := h; exact hK⟩
 obtain ⟨u, ur, rfl, hu, hur⟩ := replist_cons hr
 obtain rfl := replist_nil hur
 cases hu with
 | fn _ _ vs hvl hv =>
   obtain ⟨v, rfl⟩ : ∃ v, vs = [v] := by
     match vs, hvl with
     | [v], _ => exact ⟨v, rfl⟩
   have hv0 := hv 0 _ _ rfl rfl
   cases hv0 with
   | bp _ _ _ hx h1 h =>
     obtain ⟨bb, c, hι, rfl⟩ := h _ hj
     obtain ⟨bb', c', cur, e', hι', _, hcur, hsz, hcell⟩ := (hm.heap j _ hj).2
     rw [hι] at hι'; cases hι'
     obtain ⟨u0, hu0⟩ : ∃ u0, cur[0]? = some u0 := ⟨_, Array.getElem?_eq_getElem (by rw [hsz]; exact Nat.zero_lt_one)⟩
     have hrep := (hcell 0 _ _ rfl hu0).2
     cases hrep with
     | mp _ _ hx2 h2 hmp =>
       obtain ⟨bm, cm, hιm, rfl⟩ := hmp _ _ _ hh
       obtain ⟨bm', cm', arr, ck, hιm', _, ⟨hbm, hbn⟩, hent, _⟩ := (hm.heap id _ hh).2
       rw [hιm] at hιm'; cases hιm'
       obtain ⟨D0, hown, hperm, hsize⟩ := own_of_map (P := Tryz.prog) (k := 3) Tryz.underlying3 hbm hbn hent hl hks hnd
       have hbb : bb < w.heap.size := (Array.getElem?_eq_some_iff.1 hcur).1
       have hce : w.cell? ⟨bb, 0, none⟩ = some (.map (some bm)) := by simp [World.cell?, hcur, hu0]
       have hseq : SeqGives Fence.wide 2 Tryz.prog 60 #[.pointer (some ⟨bb, 0, none⟩)] encZ (fun ss => ss.Perm (intKeys D0)) (Maps.size D0) w :=
         AnyZI.keys_gives (ρ := Tryz.keysA_ren) { Tryz.keysA with } Fence.wide _ trivial rfl (by omega) bb bm _ D0 w hbb hce hown
       have hmx : maxLen = 9223372036854775807 := rfl
       have cS := AnyZI.sorted_in Tryz.sortedA Fence.wide 5 trivial trivial trivial trivial rfl (by omega) (sortsA _) (enters_of Tryz.func59 (by kernel_rfl) rfl) 60 #[.pointer (some ⟨bb, 0, none⟩)] trivial (enters_of Tryz.func60 (by kernel_rfl) rfl) _ _ (by rw [hsize]; omega) (by rw [hsize]; omega) _ hseq
       refine ((callsIn_wide (n := 5)).1 cS).mono ?_
       rintro e w' ⟨v, ss, rfl, hS, hrow, hnil, hb⟩
       have hzs : ss.mergeSort Go.leI = zs := by rw [hz]; exact mergeSort_of_perm_i (hS.trans hperm)
       have hlz : zs.length = ss.length := by rw [← hzs, (List.mergeSort_perm ss Go.leI).length_eq]
       have hrow' : w'.ownsRow w.heap.size 3 1 v (zs.map fun n => [CV.int .i64 n]).length (zs.map encZ) := by
         rw [List.length_map, hlz, ← hzs]; exact hrow
       obtain ⟨p, hpv, hp⟩ : ∃ p, v = ownVal p (zs.map fun n => [CV.int .i64 n]).length ∧ ∀ b c, p = some (b, c) → w.heap.size ≤ b := by
         rcases hrow'.2 with ⟨rfl, _⟩ | ⟨g, cap, cur', rfl, hg, _⟩
         · exact ⟨none, rfl, fun b c e => by cases e⟩
         · exact ⟨some (g, cap), rfl, fun b c e => by cases e; exact hg⟩
       rw [hpv] at hrow'
       have hst := step_row hm hb hp hrow' (by intro r hr; obtain ⟨n, _, rfl⟩ := List.mem_map.1 hr; rfl) (fun i c v hc hv => by
         rw [flat1] at hc
         rw [List.getElem?_map] at hc hv
         cases hzi : zs[i]? with
         | none => rw [hzi] at hc; cases hc
         | some n => rw [hzi] at hc hv; cases hc; cases hv; exact .int _ _)
       rw [hpv]
       exact ⟨_, rfl, (fun e => absurd e (by decide)), _, _, s.new (.row 3 1 (zs.map fun n => [CV.int .i64 n])), rfl, hst.1, hst.2, rfl, rfl⟩
end Go.Proofs.YtjpdaapjnpdiiaaGreat
namespace Go.Proofs.YtjpdaapjnpdiiaaGreat
open Go.RowKit
def splT (a : Int) (ws : List Int) : SV := .tup [L 1 ((if chkF a ws = 0 then partsL a ws else []).map e1), I (chkF a ws)]
theorem qL_get {a : Int} {ws : List Int} {k : Nat} {w : Int} (h : ws[k]? = some w) : (qL a ws)[k]? = some (a * w / ws.sum) := by rw [qL, List.getElem?_map, h]; rfl
theorem rL_get {a : Int} {ws : List Int} {k : Nat} {w : Int} (h : ws[k]? = some w) : (rL a ws)[k]? = some (a * w % ws.sum) := by rw [rL, List.getElem?_map, h]; rfl
theorem Good.st {a : Int} {ws : List Int} (g : Good a ws) : stP ⟨rL a ws, idxL ws.length, ordL (rL a ws)⟩ := by
 have hl := g.len
 refine ⟨⟨fun y hy => ?_, by rw [rL_len]; omega⟩, ⟨idxL_stb _ _, by have := ordL_sorted (rL a ws); rw [rL_len] at this; exact this⟩, by rw [idxL_len]; omega⟩
 obtain ⟨i, hi, rfl⟩ := idxL_mem.1 hy
 rw [rL_len]; omega
theorem Good.incB {a : Int} {ws : List Int} (g : Good a ws) {is : List Int} (hn : is.Nodup) (h0 : ∀ i ∈ is, 0 ≤ i) {c : Nat} (hc : c < ws.length) : ∃ v, (incs (qL a ws) is)[c]? = some v ∧ 0 ≤ v ∧ v ≤ 1099511627777 := by
 obtain ⟨w, hw⟩ := getElem_some hc
 obtain ⟨q0, q1⟩ := g.q (List.mem_of_getElem? hw)
 have := g.a1
 refine ⟨_, incs_get is _ c _ hn h0 (qL_get hw), ?_⟩
 split <;> omega
theorem incr_eq {l : List Int} {c : Nat} {v : Int} (h : l[c]? = some v) : incr l c = l.set c (v + 1) := by rw [incr, Int.toNat_natCast, List.getD, h]; rfl
def splitIr : IFn := ⟨85, [.tmp 4, .tmp 5], (zq [ zl 4 .mov [zx], zl 5 .mov [zi 0]] (zq [ zm 17 0, zm 18 1, zo 19 (.call 46) [17, 18], zm 16 19, zo 20 (.extract 0) [16], zo 21 (.extract 1) [16], zm 6 20, zm 7 21] (.seq (zq [ zm 22 7, zl 23 (.cmp .neq) [.tmp 22, zi 0]] (.cond (.tmp 23) (zq [ zm 24 7, zl 4 .mov [zx], zm 5 24] .ret) .skip)) (zq [ zm 25 1, zo 26 .len [25], zo 27 (.mksl 3 1 8 [.int .i64 0]) [26, 26], zm 8 27] (zq [ zm 28 1, zo 29 .len [28], zo 30 (.mksl 3 1 8 [.int .i64 0]) [29, 29], zo 9 (.alloc [.nil]) [], zn (.store 1) [9, 30]] (zq [ zm 31 1, zo 32 .len [31], zo 33 (.mksl 3 1 8 [.int .i64 0]) [32,
 32], zm 10 33] (zq [ zm 34 0, zm 11 34] (.seq (zq [ zm 35 1, zo 36 .len [35], zl 37 .mov [zi 0]] (.block 0 (.loop (zq [ zo 38 (.cmp .lss) [37, 36]] (.seq (.cond (.tmp 38) .skip (.exit 0)) (.seq (.block 1 (zq [ zm 39 37, zo 40 (.idx 1) [35, 37], zo 41 (.load 1 false) [40], zm 12 39, zm 13 41] (.seq (.ops [ zm 43 8, zm 44 12, zo 45 (.loadB 1 false) [9], zm 46 12, zm 47 0, zm 48 13, zm 49 6, zo 50 (.call 47) [47, 48, 49], zm 42 50, zo 51 (.extract 0) [42], zo 52 (.extract 1) [42], zo 53 (.idx 1) [43, 44], zn (.storeE 1) [53, 51], zo 54 (.idx 1) [45, 46], zn (.store 1) [54, 52]] true) (zq [ zm 55
 10, zm 56 12, zm 57 12, zo 58 (.idx 1) [55, 56], zn (.store 1) [58, 57]] (zp [ zm 59 11, zm 60 8, zm 61 12, zo 62 (.idx 1) [60, 61], zo 63 (.load 1 false) [62], zo 64 (.bin .sub .i64 false) [59, 63], zm 11 64]))))) (zp [ zl 65 (.bin .add .i64 false) [.tmp 37, zi 1], zm 37 65]))))))) (zq [ zm 66 10, zo 67 (.fn 49) [9], zo 68 (.callg 48) [66, 67]] (.seq (zq [ zm 69 10, zm 70 11, zo 71 (.sliceF 1 false true) [69, 70], zo 72 .len [71], zl 73 .mov [zi 0]] (.block 2 (.loop (zq [ zo 74 (.cmp .lss) [73, 72]] (.seq (.cond (.tmp 74) .skip (.exit 2)) (.seq (.block 3 (zq [ zo 75 (.idx 1) [71, 73], zo 76
 (.load 1 false) [75], zm 15 76] (zp [ zm 77 8, zm 78 15, zo 79 (.idx 1) [77, 78], zo 80 (.load 1 false) [79], zl 81 (.bin .add .i64 false) [.tmp 80, zi 1], zo 82 (.idx 1) [77, 78], zn (.store 1) [82, 81]]))) (zp [ zl 83 (.bin .add .i64 false) [.tmp 73, zi 1], zm 73 83]))))))) (zq [ zm 84 8, zm 4 84, zl 5 .mov [zi 0]] .ret)))))))))))⟩
theorem splitLow : lowF Tryz.prog { bxs := [45], eps := [53], gvs := [68], frz := [71] } Tryz.f17 = some splitIr := by kernel_rfl
def splitS : Spec := spec (Int × List Int) (fun p => [I p.1, L 1 (p.2.map e1)]) (fun p => p.2.length ≤ 1000000) (fun p => splT p.1 p.2)
theorem splitV : fnV Tryz.prog splitIr splitS := by
 intro ⟨(a : Int), (ws : List Int)⟩ hx
 replace hx : ws.length ≤ 1000000 := hx
 have hl : (ws.map e1).length = ws.length := List.length_map ..
 show vc _ _ _ _ ⟨argEnv 0 [I a, L 1 (ws.map e1)], [], 0⟩
 by_cases hc : chkF a ws = 0
 · have hct : chkT a ws = .tup [I ws.sum, I 0] := by unfold chkT; rw [hc, if_pos rfl]
   have g := good_of hc
   repeat' ((conv => whnf); first | (refine ⟨fun h => ?_, fun h => ?_⟩ <;> try (exfalso; first | omega | (revert h; decide) | exact h rfl)) | (refine ⟨_, check_h, (a, ws), hx, leVs_of_eq rfl, .inl rfl, rfl, ?_⟩; show norm (chkT a ws) _; rw [hct]) | refine ⟨⟨by omega, by omega⟩, ?_⟩ | fail)
   refine ⟨Nat × Int × (List (List CV)) × (List (List CV)) × (List (List CV)), fun xq => ⟨[(0, I a), (1, L 1 (ws.map e1)), (6, I ws.sum), (8, .osl 0), (9, .bp 2 0), (10, .osl 3), (11, I xq.2.1), (35, L 1 (ws.map e1)), (36, I (ws.map e1).length), (37, I xq.1)], [(0, .row 3 1 xq.2.2.1), (1, .row 3 1 xq.2.2.2.1), (2, .box [.osl 1]), (3, .row 3 1 xq.2.2.2.2)], 4⟩, fun xq => ((xq.1 ≤ ws.length ∧ xq.2.1 = a - ((qL a ws).take xq.1).sum) ∧ a - 1099511627776 * (xq.1 : Int) ≤ xq.2.1 ∧ xq.2.1 ≤ a) ∧ xq.2.2.1 = (upTo (qL a ws) ws.length xq.1).map e1 ∧ xq.2.2.2.1 = (upTo (rL a ws) ws.length xq.1).map e1 ∧ xq.2.2.2.2 = (upTo (idxL ws.length) ws.length xq.1).map e1, fun xq => ws.length - xq.1, ⟨(0, _, _, _, _), ?_, [], ⟨⟨rfl, rfl⟩, ⟨rfl, rfl⟩, ⟨rfl, rfl⟩, ⟨rfl, rfl⟩, ⟨rfl, rfl⟩, ⟨rfl, rfl⟩, ⟨rfl, rfl⟩, ⟨rfl, rfl⟩, ⟨rfl, rfl⟩, ⟨rfl, rfl⟩, trivial⟩, ⟨⟨rfl, rfl, rfl⟩, ⟨rfl, rfl, rfl⟩, ⟨rfl, rfl, rfl⟩, ⟨rfl, rfl, rfl⟩, trivial⟩, rfl, rfl, rfl⟩, ?_⟩
   · (try dsimp only); exact ⟨⟨⟨Nat.zero_le _, by simp⟩, by omega, by omega⟩, by rw [upTo_start]; simp, by rw [upTo_start]; simp, by rw [upTo_start]; simp⟩
   rintro ⟨k, m, ps, rs, os⟩ hk
   obtain ⟨⟨⟨hk, hm⟩, m0, m1⟩, rfl, rfl, rfl⟩ : ((k ≤ ws.length ∧ m = a - ((qL a ws).take k).sum) ∧ a - 1099511627776 * (k : Int) ≤ m ∧ m ≤ a) ∧ ps = (upTo (qL a ws) ws.length k).map e1 ∧ rs = (upTo (rL a ws) ws.length k).map e1 ∧ os = (upTo (idxL ws.length) ws.length k).map e1 := hk
   (try dsimp only)
   have hlp : ((upTo (qL a ws) ws.length k).map e1).length = ws.length := by rw [List.length_map, upTo_len hk (qL_len a ws)]
   have hlr : ((upTo (rL a ws) ws.length k).map e1).length = ws.length := by rw [List.length_map, upTo_len hk (rL_len a ws)]
   have hlo : ((upTo (idxL ws.length) ws.length k).map e1).length = ws.length := by rw [List.length_map, upTo_len hk (idxL_len _)]
   by_cases hkl : k < ws.length
   · obtain ⟨w, hw⟩ := getElem_some hkl
     obtain ⟨w0, w1⟩ := g.wOk w (List.mem_of_getElem? hw)
     have hws := le_sum (fun w hw => (g.wOk w hw).1) w (List.mem_of_getElem? hw)
     have hs0 := g.s0
     have hs1 := g.s1
     have ha0 := g.a0
     have ha1 := g.a1
     have hn64 := g.len
     obtain ⟨q0, q1⟩ := g.q (List.mem_of_getElem? hw)
     have gp : ((upTo (qL a ws) ws.length k).map e1)[(k : Int).toNat]? = some [.int .i64 0] := get_e1 (upTo_get (qL_get hw) (qL_len a ws))
     have gr : ((upTo (rL a ws) ws.length k).map e1)[(k : Int).toNat]? = some [.int .i64 0] := get_e1 (upTo_get (rL_get hw) (rL_len a ws))
     have go : ((upTo (idxL ws.length) ws.length k).map e1)[(k : Int).toNat]? = some [.int .i64 0] := get_e1 (upTo_get (idxL_get hkl) (idxL_len _))
     have gq : (((upTo (qL a ws) ws.length k).map e1).set (k : Int).toNat [.int .i64 (a * w / ws.sum)])[(k : Int).toNat]? = some [.int .i64 (a * w / ws.sum)] := List.getElem?_set_self (by rw [hlp]; exact hkl)
     have hps : ((upTo (qL a ws) ws.length k).map e1).set (k : Int).toNat [.int .i64 (a * w / ws.sum)] = (upTo (qL a ws) ws.length (k + 1)).map e1 := by rw [map_set1, Int.toNat_natCast, upTo_set (qL_get hw) (qL_len a ws)]
     have hrs : ((upTo (rL a ws) ws.length k).map e1).set (k : Int).toNat [.int .i64 (a * w % ws.sum)] = (upTo (rL a ws) ws.length (k + 1)).map e1 := by rw [map_set1, Int.toNat_natCast, upTo_set (rL_get hw) (rL_len a ws)]
     have hos : ((upTo (idxL ws.length) ws.length k).map e1).set (k : Int).toNat [.int .i64 (k : Int)] = (upTo (idxL ws.length) ws.length (k + 1)).map e1 := by rw [map_set1, Int.toNat_natCast, upTo_set (idxL_get hkl) (idxL_len _)]
     repeat' ((conv => whnf); first | (refine ⟨fun h => ?_, fun h => ?_⟩ <;> try (exfalso; first | omega | (revert h; decide) | exact h rfl)) | (refine ⟨_, exact_h, (a, w, ws.sum), (by show (0 ≤ a ∧ a ≤ 1099511627776) ∧ (0 ≤ w ∧ w ≤ 1000000000) ∧ (1 ≤ ws.sum ∧ ws.sum ≤ 64000000000) ∧ w ≤ ws.sum; omega), leVs_of_eq rfl, .inl rfl, rfl, ?_⟩; show norm (.tup [I (a * w / ws.sum), I (a * w % ws.sum)]) _) | refine get_at gp ?_ | refine get_at gr ?_ | refine get_at go ?_ | refine get_at gq ?_ | (refine ⟨(k + 1, _, _, _, _), ⟨?_, by (try dsimp only); omega⟩, [], ⟨⟨rfl, rfl⟩, ⟨rfl, rfl⟩, ⟨rfl, rfl⟩, ⟨rfl, rfl⟩, ⟨rfl, rfl⟩, ⟨rfl, rfl⟩, ⟨rfl, rfl⟩, ⟨rfl, rfl⟩, ⟨rfl, rfl⟩, ⟨rfl, rfl⟩, trivial⟩, ⟨⟨rfl, rfl, rfl⟩, ⟨rfl, rfl, rfl⟩, ⟨rfl, rfl, rfl⟩, ⟨rfl, rfl, rfl⟩, trivial⟩, rfl, rfl, rfl⟩; (try dsimp only); exact ⟨⟨⟨by omega, by rw [sum_take (qL_get hw)]; omega⟩, by omega, by omega⟩, hps, hrs, hos⟩) | (refine ⟨by omega, fun r hrr => ?_⟩; (have hre : r = e1 w := by (first | exact get_row hrr hw | fail)); subst hre) | refine ⟨⟨by omega, by omega⟩, ?_⟩ | refine ⟨⟨by omega, by (rw [List.length_set]; omega)⟩, ?_⟩ | fail)
   · have hkn : k = ws.length := by omega
     subst hkn
     have hol : ((ordL (rL a ws)).map e1).length = ws.length := by rw [List.length_map, ordL_len, rL_len]
     obtain ⟨hle, hlt⟩ := g.left
     rw [List.take_of_length_le (by rw [qL_len]; omega)] at hm
     have hmt : m.toNat = leftN a ws := by omega
     rw [upTo_end (qL_len a ws), upTo_end (rL_len a ws), upTo_end (idxL_len _)]
     repeat' ((conv => whnf); first | (refine ⟨fun h => ?_, fun h => ?_⟩ <;> try (exfalso; first | omega | (revert h; decide) | exact h rfl)) | (refine ⟨[3], _, sort_g, ⟨rL a ws, idxL ws.length, ordL (rL a ws)⟩, g.st, ⟨⟨⟨rfl, rfl, rfl⟩, trivial⟩, rfl, rfl, rfl⟩, ⟨⟨rfl, rfl⟩, rfl, trivial⟩, .inr ⟨rfl, ⟨cln1 _, trivial⟩, trivial⟩, ⟨⟨⟨⟨rfl, rfl⟩, by (show ((ordL (rL a ws)).map e1).length = ((idxL ws.length).map e1).length; rw [hol, List.length_map, idxL_len])⟩, trivial⟩, trivial⟩, ?_⟩) | (refine ⟨(by show (0 : Int) ≤ 0 ∧ 0 ≤ m ∧ m ≤ (((ordL (rL a ws)).map e1).length : Int); omega), ?_⟩) | fail)
     refine ⟨Nat × (List (List CV)) × (List (List CV)), fun xq => ⟨[(8, .osl 0), (71, L 1 xq.2.1), (72, I xq.2.1.length), (73, I xq.1)], [(0, .row 3 1 xq.2.2)], 1⟩, fun xq => xq.1 ≤ leftN a ws ∧ xq.2.1 = ((ordL (rL a ws)).take (leftN a ws)).map e1 ∧ xq.2.2 = (incs (qL a ws) (((ordL (rL a ws)).take (leftN a ws)).take xq.1)).map e1, fun xq => leftN a ws - xq.1, ⟨(0, _, _), ?_, [], ⟨⟨rfl, rfl⟩, ⟨rfl, rfl⟩, ⟨rfl, rfl⟩, ⟨rfl, rfl⟩, trivial⟩, ⟨⟨rfl, rfl, rfl⟩, trivial⟩, rfl, rfl, rfl⟩, ?_⟩
     · (try dsimp only); exact ⟨Nat.zero_le _, by show List.drop 0 (((ordL (rL a ws)).map e1).take m.toNat) = _; rw [List.drop_zero, ← List.map_take, hmt], rfl⟩
     rintro ⟨k, ts, ps⟩ hk
     obtain ⟨hk2, rfl, rfl⟩ : k ≤ leftN a ws ∧ ts = ((ordL (rL a ws)).take (leftN a ws)).map e1 ∧ ps = (incs (qL a ws) (((ordL (rL a ws)).take (leftN a ws)).take k)).map e1 := hk
     (try dsimp only)
     have hTl : ((ordL (rL a ws)).take (leftN a ws)).length = leftN a ws := by rw [List.length_take, ordL_len, rL_len]; omega
     have hTn : ((ordL (rL a ws)).take (leftN a ws)).Nodup := (ordL_nodup _).sublist (List.take_sublist _ _)
     have hTm : ∀ i ∈ (ordL (rL a ws)).take (leftN a ws), ∃ c : Nat, c < ws.length ∧ i = c := fun i hi => by have := ordL_mem (List.mem_of_mem_take hi); rw [rL_len] at this; exact this
     have hfin : partsL a ws = incs (qL a ws) ((ordL (rL a ws)).take (leftN a ws)) := rfl
     generalize (ordL (rL a ws)).take (leftN a ws) = T at *
     have hml : (T.map e1).length = T.length := List.length_map ..
     have hpl : ((incs (qL a ws) (T.take k)).map e1).length = ws.length := by rw [List.length_map, incs_len, qL_len]
     by_cases hkT : k < T.length
     · obtain ⟨w, hw⟩ := getElem_some hkT
       obtain ⟨c, hcn, hwc⟩ := hTm w (List.mem_of_getElem? hw)
       subst hwc
       obtain ⟨v, hv, v0, v1⟩ := g.incB (is := T.take k) (hTn.sublist (List.take_sublist _ _)) (fun i hi => by obtain ⟨j, _, rfl⟩ := hTm i (List.mem_of_mem_take hi); omega) hcn
       have gp : ((incs (qL a ws) (T.take k)).map e1)[(c : Int).toNat]? = some [.int .i64 v] := get_e1 hv
       have hps : ((incs (qL a ws) (T.take k)).map e1).set (c : Int).toNat [.int .i64 (v + 1)] = (incs (qL a ws) (T.take (k + 1))).map e1 := by rw [map_set1, Int.toNat_natCast, take_snoc T k _ hw, incs_snoc, incr_eq hv]
       repeat' ((conv => whnf); first | (refine ⟨fun h => ?_, fun h => ?_⟩ <;> try (exfalso; first | omega | (revert h; decide) | exact h rfl)) | refine get_at gp ?_ | (refine ⟨(k + 1, _, _), ⟨?_, by (try dsimp only); omega⟩, [], ⟨⟨rfl, rfl⟩, ⟨rfl, rfl⟩, ⟨rfl, rfl⟩, ⟨rfl, rfl⟩, trivial⟩, ⟨⟨rfl, rfl, rfl⟩, trivial⟩, rfl, rfl, rfl⟩; (try dsimp only); exact ⟨by omega, rfl, hps⟩) | (refine ⟨by omega, fun r hrr => ?_⟩; (have hre : r = e1 (c : Int) := by (first | exact get_row hrr hw | fail)); subst hre) | refine ⟨⟨by omega, by omega⟩, ?_⟩ | refine ⟨⟨by omega, by (rw [List.length_set]; omega)⟩, ?_⟩ | fail)
     · rw [take_end hkT]
       repeat' ((conv => whnf); first | (refine ⟨fun h => ?_, fun h => ?_⟩ <;> try (exfalso; first | omega | (revert h; decide) | exact h rfl)) | fail)
       all_goals (refine ⟨[], rfl, trivial, ?_⟩; show leR _ (splT a ws); unfold splT; rw [if_pos hc, hc, hfin]; exact ⟨rfl, rfl, trivial⟩)
 · have hct : chkT a ws = .tup [I 0, I (chkF a ws)] := by unfold chkT; rw [if_neg hc]
   repeat' ((conv => whnf); first | (refine ⟨fun h => ?_, fun h => ?_⟩ <;> try (exfalso; first | omega | (revert h; decide) | exact h rfl)) | (refine ⟨_, check_h, (a, ws), hx, leVs_of_eq rfl, .inl rfl, rfl, ?_⟩; show norm (chkT a ws) _; rw [hct]) | fail)
   all_goals (refine ⟨[], rfl, trivial, ?_⟩; show leR _ (splT a ws); unfold splT; rw [if_neg hc]; exact ⟨rfl, rfl, trivial⟩)
theorem split_h : Holds Tryz.prog 17 splitS := holds_of mix Tryz.func17 splitLow (fun _ => rfl) splitV
end Go.Proofs.YtjpdaapjnpdiiaaGreat
namespace Go.Proofs.YtjpdaapjnpdiiaaGreat
open Go.RowKit
end Go.Proofs.YtjpdaapjnpdiiaaGreat
namespace Go.Proofs.YtjpdaapjnpdiiaaGreat
open Go.RowKit
def amt (p : List Share) (o : Int) : Int := (p.map fun x => if x.o = o then x.a else 0).sum
theorem amt_snoc (p : List Share) (x : Share) (o : Int) : amt (p ++ [x]) o = if o = x.o then amt p o + x.a else amt p o := by
 simp only [amt, List.map_append, List.sum_append, List.map_cons, List.map_nil, List.sum_cons, List.sum_nil]
 by_cases h : o = x.o
 · rw [if_pos h, if_pos h.symm]; omega
 · rw [if_neg h, if_neg (fun e => h e.symm)]; omega
theorem amt_out {p : List Share} {o : Int} (h : o ∉ p.map (·.o)) : amt p o = 0 := by
 induction p with
 | nil => rfl
 | cons x r ih =>
   simp only [List.map_cons, List.mem_cons, not_or] at h
   have := ih h.2
   simp only [amt, List.map_cons, List.sum_cons] at this ⊢
   rw [if_neg (fun e => h.1 e.symm)]; omega
def addO : List Share → List Share → Bool
 | _, [] => true
 | p, x :: r => match plusF (amt p x.o) x.a with
   | none => false
   | some _ => addO (p ++ [x]) r
def insK (o : Int) : List Int → List Int
 | [] => [o]
 | y :: r => if o < y then o :: y :: r else if o = y then y :: r else y :: insK o r
def keysL (p : List Share) : List Int := p.foldl (fun l x => insK x.o l) []
theorem insK_mem (o : Int) : ∀ (l : List Int) (z : Int), z ∈ insK o l ↔ z = o ∨ z ∈ l
 | [], z => by simp [insK]
 | y :: r, z => by
   rw [insK]
   split
   · simp
   · split
     · rename_i h; subst h; simp
     · simp only [List.mem_cons, insK_mem o r z]
       exact ⟨fun h => by rcases h with h | h | h <;> simp [h], fun h => by rcases h with h | h | h <;> simp [h]⟩
theorem insK_sorted (o : Int) : ∀ {l : List Int}, l.Pairwise (· < ·) → (insK o l).Pairwise (· < ·)
 | [], _ => List.pairwise_singleton _ _
 | y :: r, h => by
   obtain ⟨h1, h2⟩ := List.pairwise_cons.1 h
   rw [insK]
   split
   · refine List.pairwise_cons.2 ⟨fun z hz => ?_, h⟩
     rcases List.mem_cons.1 hz with rfl | hz
     · assumption
     · have := h1 z hz; omega
   · split
     · exact h
     · refine List.pairwise_cons.2 ⟨fun z hz => ?_, insK_sorted o h2⟩
       rcases (insK_mem o r z).1 hz with rfl | hz
       · omega
       · exact h1 z hz
theorem keysL_spec (p : List Share) : (keysL p).Pairwise (· < ·) ∧ ∀ o, o ∈ keysL p ↔ o ∈ p.map (·.o) := by
 have h : ∀ (p : List Share) (l : List Int), l.Pairwise (· < ·) → (p.foldl (fun l x => insK x.o l) l).Pairwise (· < ·) ∧ ∀ o, o ∈ p.foldl (fun l x => insK x.o l) l ↔ o ∈ l ∨ o ∈ p.map (·.o) := by
   intro p
   induction p with
   | nil => intro l hl; exact ⟨hl, fun o => by simp⟩
   | cons x r ih =>
     intro l hl
     obtain ⟨h1, h2⟩ := ih (insK x.o l) (insK_sorted _ hl)
     refine ⟨h1, fun o => ?_⟩
     rw [List.foldl_cons, h2, insK_mem, List.map_cons, List.mem_cons]
     exact ⟨fun h => by rcases h with (h | h) | h <;> simp [h], fun h => by rcases h with h | h | h <;> simp [h]⟩
 obtain ⟨h1, h2⟩ := h p [] .nil
 exact ⟨h1, fun o => by rw [keysL, h2]; simp⟩
theorem keysL_len : ∀ p : List Share, (keysL p).length ≤ p.length := by
 have h : ∀ (o : Int) (l : List Int), (insK o l).length ≤ l.length + 1 := by
   intro o l
   induction l with
   | nil => simp [insK]
   | cons y r ih => rw [insK]; (repeat' split) <;> simp only [List.length_cons] <;> omega
 have h2 : ∀ (p : List Share) (l : List Int), (p.foldl (fun l x => insK x.o l) l).length ≤ l.length + p.length := by
   intro p
   induction p with
   | nil => intro l; simp
   | cons x r ih => intro l; have := ih (insK x.o l); have := h x.o l; simp only [List.foldl_cons, List.length_cons]; omega
 intro p
 have := h2 p []
 simpa [keysL] using this
theorem lt_uniq {a b : List Int} (ha : a.Pairwise (· < ·)) (hb : b.Pairwise (· < ·)) (h : ∀ z, z ∈ a ↔ z ∈ b) : a = b := by
 have na : a.Nodup := ha.imp fun h => by omega
 have nb : b.Nodup := hb.imp fun h => by omega
 exact List.Perm.eq_of_pairwise (fun x y _ _ h1 h2 => by omega) ha hb ((List.perm_ext_iff_of_nodup na nb).2 h)
theorem sorted_keys {p : List Share} {ks : List Int} (hn : ks.Nodup) (hm : ∀ o, o ∈ ks ↔ o ∈ p.map (·.o)) : keysL p = ks.mergeSort Go.leI := by
 obtain ⟨h1, h2⟩ := keysL_spec p
 have hp := List.mergeSort_perm ks Go.leI
 have hs : (ks.mergeSort Go.leI).Pairwise fun x y => Go.leI x y = true := List.pairwise_mergeSort
   (fun a b c h1 h2 => by simp only [Go.leI, decide_eq_true_eq] at *; omega)
   (fun a b => by simp only [Go.leI, Bool.or_eq_true, decide_eq_true_eq]; omega) _
 have hnd : (ks.mergeSort Go.leI).Nodup := hp.nodup_iff.2 hn
 refine lt_uniq h1 ((hs.and hnd).imp fun {a b} h => ?_) fun z => by rw [h2, hp.mem_iff, hm]
 have h1 := h.1
 have h2 := h.2
 simp only [Go.leI, decide_eq_true_eq] at h1
 omega
def tabL (p : List Share) : List Share := (keysL p).map fun o => ⟨o, amt p o⟩
def fewL (p : List Share) : List Share := (tabL p).filter fun x => decide (x.a ≠ 0)
def kvOf (f : Int → Int) (ks : List Int) : List (List Int × List CV) := ks.map fun o => ([o], [CV.int .i64 (f o)])
def updF (f : Int → Int) (o v : Int) : Int → Int := fun z => if z = o then v else f z
theorem find_in {f : Int → Int} {o : Int} : ∀ {ks : List Int}, o ∈ ks → findKV [o] (kvOf f ks) = some [CV.int .i64 (f o)]
 | [], h => by simp at h
 | y :: r, h => by
   rw [kvOf, List.map_cons, findKV]
   by_cases e : o = y
   · rw [if_pos (by rw [e]), e]
   · rw [if_neg (by intro h; simp at h; exact e h)]
     exact find_in (by rcases List.mem_cons.1 h with h | h; exact absurd h e; exact h)
theorem find_out {f : Int → Int} {o : Int} : ∀ {ks : List Int}, o ∉ ks → findKV [o] (kvOf f ks) = none
 | [], _ => rfl
 | y :: r, h => by
   rw [kvOf, List.map_cons, findKV, if_neg (by intro e; simp at e; exact h (by simp [e]))]
   exact find_out fun e => h (by simp [e])
theorem kv_ext {f g : Int → Int} {ks : List Int} (h : ∀ o ∈ ks, f o = g o) : kvOf f ks = kvOf g ks := List.map_congr_left fun o ho => by rw [h o ho]
theorem set_in {f : Int → Int} {o v : Int} : ∀ {ks : List Int}, o ∈ ks → ks.Nodup → setKV [o] [CV.int .i64 v] (kvOf f ks) = kvOf (updF f o v) ks
 | [], h, _ => by simp at h
 | y :: r, h, hn => by
   obtain ⟨h1, h2⟩ := List.nodup_cons.1 hn
   rw [kvOf, List.map_cons, setKV]
   by_cases e : o = y
   · subst e
     rw [if_pos rfl, kvOf, List.map_cons]
     have : updF f o v o = v := by simp [updF]
     rw [this]
     congr 1
     exact (kv_ext fun z hz => by simp only [updF]; rw [if_neg]; rintro rfl; exact h1 hz).symm
   · rw [if_neg (by intro h; simp at h; exact e h)]
     have hr : o ∈ r := by rcases List.mem_cons.1 h with h | h; exact absurd h e; exact h
     have ih := set_in (f := f) (v := v) hr h2
     rw [kvOf] at ih
     rw [ih]
     have : updF f o v y = f y := by simp only [updF]; rw [if_neg (fun h => e h.symm)]
     rw [kvOf, kvOf, List.map_cons, this]
theorem set_out {f : Int → Int} {o v : Int} : ∀ {ks : List Int}, o ∉ ks → setKV [o] [CV.int .i64 v] (kvOf f ks) = kvOf (updF f o v) (ks ++ [o])
 | [], _ => by simp [kvOf, setKV, updF]
 | y :: r, h => by
   rw [kvOf, List.map_cons, setKV, if_neg (by intro e; simp at e; exact h (by simp [e]))]
   have ih := set_out (f := f) (v := v) (o := o) (ks := r) fun e => h (List.mem_cons_of_mem _ e)
   rw [kvOf] at ih
   rw [ih]
   have : updF f o v y = f y := by simp only [updF]; rw [if_neg]; rintro rfl; exact h (by simp)
   rw [kvOf, kvOf, List.cons_append, List.map_cons, this]
theorem look_kv {f : Int → Int} {ks : List Int} {o : Int} (h0 : o ∉ ks → f o = 0) {K : SV → Prop} (hK : K (.c (.int .i64 (f o)))) : (∀ l, findKV [o] (kvOf f ks) = some l → gotV false false l true K) ∧ (findKV [o] (kvOf f ks) = none → gotV false false [.int .i64 0] false K) := by
 by_cases h : o ∈ ks
 · refine ⟨fun l hl => ?_, fun e => by rw [find_in h] at e; cases e⟩
   rw [find_in h] at hl; cases hl; exact hK
 · refine ⟨fun l hl => (by rw [find_out h] at hl; cases hl), fun _ => ?_⟩
   rw [h0 h] at hK; exact hK
structure Sums (p : List Share) (ks : List Int) : Prop where
 nd : ks.Nodup
 mem : ∀ o, o ∈ ks ↔ o ∈ p.map (·.o)
 bnd : ∀ o, -1099511627776 ≤ amt p o ∧ amt p o ≤ 1099511627776
 len : ks.length ≤ p.length
theorem Sums.nil : Sums [] [] := ⟨.nil, fun o => by simp, fun o => by simp [amt], by simp⟩
theorem Sums.zero {p : List Share} {ks : List Int} (h : Sums p ks) {o : Int} (hn : o ∉ ks) : amt p o = 0 := amt_out fun e => hn ((h.mem o).2 e)
theorem Sums.step {p : List Share} {ks : List Int} (h : Sums p ks) {x : Share} {t : Int} (hp : plusF (amt p x.o) x.a = some t) : ∃ ks', Sums (p ++ [x]) ks' ∧ setKV [x.o] [CV.int .i64 t] (kvOf (amt p) ks) = kvOf (amt (p ++ [x])) ks' := by
 have hb := plusF_bnd hp
 have ht : t = amt p x.o + x.a := by
   unfold plusF at hp
   split at hp
   · cases hp
   · cases hp; rfl
 have hu : updF (amt p) x.o t = amt (p ++ [x]) := by
   funext o
   rw [amt_snoc, updF, ht]
   by_cases e : o = x.o
   · rw [if_pos e, if_pos e, e]
   · rw [if_neg e, if_neg e]
 have hbn : ∀ o, -1099511627776 ≤ amt (p ++ [x]) o ∧ amt (p ++ [x]) o ≤ 1099511627776 := by
   intro o
   rw [amt_snoc]
   have := h.bnd o
   split
   · rename_i e; subst e; omega
   · exact this
 by_cases hk : x.o ∈ ks
 · refine ⟨ks, ⟨h.nd, fun o => ?_, hbn, by have := h.len; simp; omega⟩, by rw [set_in hk h.nd, hu]⟩
   rw [h.mem, List.map_append, List.mem_append]
   refine ⟨.inl, fun h' => h'.elim id fun e => ?_⟩
   simp at e; rw [e]; exact (h.mem _).1 hk
 · refine ⟨ks ++ [x.o], ⟨List.nodup_append.2 ⟨h.nd, by simp, fun a ha b hb => by simp at hb; subst hb; rintro rfl; exact hk ha⟩, fun o => ?_, hbn, by have := h.len; simp; omega⟩, by rw [set_out hk, hu]⟩
   rw [List.mem_append, h.mem, List.map_append, List.mem_append]; simp
theorem addO_step {p r all : List Share} {x : Share} (h : addO p (x :: r) = addO [] all) {t : Int} (hp : plusF (amt p x.o) x.a = some t) : addO (p ++ [x]) r = addO [] all := by
 rw [← h, addO, hp]
theorem addO_bad {p r all : List Share} {x : Share} (h : addO p (x :: r) = addO [] all) (hp : plusF (amt p x.o) x.a = none) : addO [] all = false := by
 rw [← h, addO, hp]
end Go.Proofs.YtjpdaapjnpdiiaaGreat
namespace Go.Proofs.YtjpdaapjnpdiiaaGreat
open Go.RowKit
def addT (a b : List Share) : SV := .tup [L 2 ((if addO [] (a ++ b) then fewL (a ++ b) else []).map encS), I (if addO [] (a ++ b) then 0 else 12)]
def okO (x : Share) : Prop := (Lit.int .i64 x.o).wf = true
def preS (a b : List Share) : Nat → List Share
 | 0 => []
 | 1 => a
 | _ => a ++ b
def postS (a b : List Share) : Nat → List Share
 | 0 => a ++ b
 | 1 => b
 | _ => []
def fewK (p : List Share) (l : List Int) : List Share := (l.map fun o => (⟨o, amt p o⟩ : Share)).filter fun x => decide (x.a ≠ 0)
theorem fewK_all (p : List Share) : fewK p (keysL p) = fewL p := rfl
theorem fewK_no {p : List Share} {l : List Int} {k : Nat} {o : Int} (h : l[k]? = some o) (h0 : amt p o = 0) : fewK p (l.take (k + 1)) = fewK p (l.take k) := by
 rw [take_snoc l k o h, fewK, fewK, List.map_append, List.filter_append]; simp [h0]
theorem fewK_yes {p : List Share} {l : List Int} {k : Nat} {o : Int} (h : l[k]? = some o) (h0 : ¬ amt p o = 0) : fewK p (l.take (k + 1)) = fewK p (l.take k) ++ [⟨o, amt p o⟩] := by
 rw [take_snoc l k o h, fewK, fewK, List.map_append, List.filter_append]; simp [h0]
theorem fewK_len (p : List Share) (l : List Int) : (fewK p l).length ≤ l.length := by
 refine Nat.le_trans (List.length_filter_le _ _) ?_
 rw [List.length_map]; exact Nat.le_refl _
theorem kv_head (f : Int → Int) (ks : List Int) : ((kvOf f ks).map fun p => headI p.1) = ks := by
 rw [kvOf, List.map_map]; exact List.map_id' _
def addIr : IFn := ⟨71, [.tmp 4, .tmp 5], (zq [ zl 4 .mov [zx], zl 5 .mov [zi 0]] (zq [ zo 16 (.mkmap 0 false) [], zm 6 16] (.seq (zq [ zm 17 0, zm 18 1, zo 19 (.buildSl 37 1) [17, 18], zo 20 .len [19], zl 21 .mov [zi 0]] (.block 0 (.loop (zq [ zo 22 (.cmp .lss) [21, 20]] (.seq (.cond (.tmp 22) .skip (.exit 0)) (.seq (.block 1 (zq [ zo 23 (.idx 1) [19, 21], zo 24 (.load 1 false) [23], zm 8 24] (zq [ zm 25 8, zo 26 .len [25], zl 27 .mov [zi 0]] (.block 2 (.loop (zq [ zo 28 (.cmp .lss) [27, 26]] (.seq (.cond (.tmp 28) .skip (.exit 2)) (.seq (.block 3 (zq [ zo 29 (.idx 2) [25, 27], zo 30 (.load 2 true) [29], zo 10
 (.alloc [.int .i64 0, .int .i64 0]) [], zn (.store 2) [10, 30]] (zq [ zm 32 6, zo 33 (.faddr 0) [10], zo 34 (.load 1 false) [33], zo 35 (.lookup [.int .i64 0] 0 false false) [32, 34], zo 36 (.faddr 1) [10], zo 37 (.load 1 false) [36], zo 38 (.call 30) [35, 37], zm 31 38, zo 39 (.extract 0) [31], zo 40 (.extract 1) [31], zm 11 39, zm 12 40] (.seq (zq [ zm 41 12, zo 42 .not [41]] (.cond (.tmp 42) (zq [ zl 4 .mov [zx], zl 5 .mov [zi 12]] .ret) .skip)) (zp [ zm 43 6, zo 44 (.faddr 0) [10], zo 45 (.load 1 false) [44], zm 46 11, zn (.mapset 0 false) [43, 45, 46]]))))) (zp [ zl 47 (.bin .add .i64
 false) [.tmp 27, zi 1], zm 27 47]))))))))) (zp [ zl 48 (.bin .add .i64 false) [.tmp 21, zi 1], zm 21 48]))))))) (zq [ zo 13 (.nilOwn 47 2) []] (.seq (zq [ zm 49 6, zo 50 (.callx 32) [49], zo 51 (.callx 31) [50], zo 52 .len [51], zl 53 .mov [zi 0]] (.block 4 (.loop (zq [ zo 54 (.cmp .lss) [53, 52]] (.seq (.cond (.tmp 54) .skip (.exit 4)) (.seq (.block 5 (zq [ zo 55 (.idx 1) [51, 53], zo 56 (.load 1 false) [55], zm 15 56] (zq [ zm 57 6, zm 58 15, zo 59 (.lookup [.int .i64 0] 0 false false) [57, 58], zl 60 (.cmp .neq) [.tmp 59, zi 0]] (.cond (.tmp 60) (zp [ zm 61 13, zm 62 15, zm 63 6, zm 64 15,
 zo 65 (.lookup [.int .i64 0] 0 false false) [63, 64], zo 66 (.build [.int .i64 0, .int .i64 0] [(0, 1), (1, 1)]) [62, 65], zo 67 (.buildSl 47 2) [66], zo 68 (.append 47 2 16) [61, 67], zm 13 68]) .skip)))) (zp [ zl 69 (.bin .add .i64 false) [.tmp 53, zi 1], zm 53 69]))))))) (zq [ zm 70 13, zm 4 70, zl 5 .mov [zi 0]] .ret))))))⟩
theorem addLow : lowF Tryz.prog { exts := [50, 51], owns := [(13, 47)] } Tryz.f12 = some addIr := by kernel_rfl
def addS : Spec := spec (List Share × List Share) (fun p => [L 2 (p.1.map encS), L 2 (p.2.map encS)]) (fun p => (p.1.length ≤ 100000 ∧ p.2.length ≤ 100000) ∧ ∀ x ∈ p.1 ++ p.2, okO x) (fun p => addT p.1 p.2)
theorem addV : fnV Tryz.prog addIr addS := by
 intro ⟨(a : List Share), (b : List Share)⟩ hx
 obtain ⟨⟨la, lb⟩, hok⟩ : (a.length ≤ 100000 ∧ b.length ≤ 100000) ∧ ∀ x ∈ a ++ b, okO x := hx
 show vc _ _ _ _ ⟨argEnv 0 [L 2 (a.map encS), L 2 (b.map encS)], [], 0⟩
 repeat' ((conv => whnf); first | (refine ⟨fun h => ?_, fun h => ?_⟩ <;> try (exfalso; first | omega | (revert h; decide) | exact h rfl)) | refine ⟨⟨by omega, by omega⟩, ?_⟩ | fail)
 refine ⟨Nat × (List (List Int × List CV)), fun xq => ⟨[(6, .mp 0), (19, L 1 [[CV.sl 2 (a.map encS)], [CV.sl 2 (b.map encS)]]), (20, I 2), (21, I xq.1)], [(0, .map 0 false xq.2)], 1⟩, fun xq => ∃ ks, xq.1 ≤ 2 ∧ Sums (preS a b xq.1) ks ∧ xq.2 = kvOf (amt (preS a b xq.1)) ks ∧ addO (preS a b xq.1) (postS a b xq.1) = addO [] (a ++ b), fun xq => 2 - xq.1, ⟨(0, _), ?_, [], ⟨⟨rfl, rfl⟩, ⟨rfl, rfl⟩, ⟨rfl, rfl⟩, ⟨rfl, rfl⟩, trivial⟩, ⟨⟨rfl, rfl, rfl⟩, trivial⟩, rfl, rfl, rfl⟩, ?_⟩
 · (try dsimp only); exact ⟨[], by omega, Sums.nil, rfl, rfl⟩
 rintro ⟨t, kv⟩ hk
 obtain ⟨ks, ht, hs, rfl, hadd⟩ : ∃ ks, t ≤ 2 ∧ Sums (preS a b t) ks ∧ kv = kvOf (amt (preS a b t)) ks ∧ addO (preS a b t) (postS a b t) = addO [] (a ++ b) := hk
 (try dsimp only)
 have htt : t = 0 ∨ t = 1 ∨ t = 2 := by omega
 rcases htt with rfl | rfl | rfl
 · change Sums [] ks at hs
   change addO [] (a ++ b) = _ at hadd
   repeat' ((conv => whnf); first | (refine ⟨fun h => ?_, fun h => ?_⟩ <;> try (exfalso; first | omega | (revert h; decide) | exact h rfl)) | (refine ⟨(by simp), fun r hr => ?_⟩; (have hre : [CV.sl 2 (a.map encS)] = r := by (first | exact Option.some.inj hr | fail)); subst hre) | refine ⟨⟨by omega, by omega⟩, ?_⟩ | fail)
   refine ⟨Nat × (List (List Int × List CV)), fun xq => ⟨[(6, .mp 0), (19, L 1 [[CV.sl 2 (a.map encS)], [CV.sl 2 (b.map encS)]]), (20, I 2), (21, I 0), (25, L 2 (a.map encS)), (26, I (a.map encS).length), (27, I xq.1)], [(0, .map 0 false xq.2)], 1⟩, fun xq => ∃ ks, xq.1 ≤ a.length ∧ Sums ([] ++ a.take xq.1) ks ∧ xq.2 = kvOf (amt ([] ++ a.take xq.1)) ks ∧ addO ([] ++ a.take xq.1) (a.drop xq.1 ++ b) = addO [] (a ++ b), fun xq => a.length - xq.1, ⟨(0, _), ?_, [], ⟨⟨rfl, rfl⟩, ⟨rfl, rfl⟩, ⟨rfl, rfl⟩, ⟨rfl, rfl⟩, ⟨rfl, rfl⟩, ⟨rfl, rfl⟩, ⟨rfl, rfl⟩, trivial⟩, ⟨⟨rfl, rfl, rfl⟩, trivial⟩, rfl, rfl, rfl⟩, ?_⟩
   · (try dsimp only); exact ⟨ks, Nat.zero_le _, by rw [List.take_zero, List.append_nil]; exact hs, by rw [List.take_zero, List.append_nil]; rfl, by rw [List.take_zero, List.append_nil]; exact hadd⟩
   rintro ⟨k, kv⟩ hk
   obtain ⟨ks, hk, hs, rfl, hadd⟩ : ∃ ks, k ≤ a.length ∧ Sums ([] ++ a.take k) ks ∧ kv = kvOf (amt ([] ++ a.take k)) ks ∧ addO ([] ++ a.take k) (a.drop k ++ b) = addO [] (a ++ b) := hk
   (try dsimp only)
   have hla : (a.map encS).length = a.length := List.length_map ..
   by_cases hkl : k < a.length
   · obtain ⟨x, hx⟩ := getElem_some hkl
     rw [drop_of hx, List.cons_append] at hadd
     obtain ⟨b0, b1⟩ := hs.bnd x.o
     cases hp : plusF (amt ([] ++ a.take k) x.o) x.a with
     | none =>
       have hbad := addO_bad hadd hp
       repeat' ((conv => whnf); first | refine look_kv (fun hn => hs.zero hn) ?_ | (refine ⟨fun h => ?_, fun h => ?_⟩ <;> try (exfalso; first | omega | (revert h; decide) | exact h rfl)) | (refine ⟨_, plus_h, (amt ([] ++ a.take k) x.o, x.a), ⟨b0, b1⟩, leVs_of_eq rfl, .inl rfl, rfl, ?_⟩; show norm (optT (plusF (amt ([] ++ a.take k) x.o) x.a)) _; rw [hp]) | (refine ⟨by omega, fun r hrr => ?_⟩; (have hre : r = encS x := by (first | exact get_row hrr hx | fail)); subst hre) | fail)
       all_goals (refine ⟨[], rfl, trivial, ?_⟩; show leR _ (addT a b); unfold addT; rw [hbad]; exact ⟨rfl, rfl, trivial⟩)
     | some v =>
       obtain ⟨ks', hs', hset⟩ := hs.step hp
       have hadd' := addO_step hadd hp
       rw [List.append_assoc, ← take_snoc a k x hx] at hs' hset hadd'
       repeat' ((conv => whnf); first | refine look_kv (fun hn => hs.zero hn) ?_ | (refine ⟨fun h => ?_, fun h => ?_⟩ <;> try (exfalso; first | omega | (revert h; decide) | exact h rfl)) | (refine ⟨_, plus_h, (amt ([] ++ a.take k) x.o, x.a), ⟨b0, b1⟩, leVs_of_eq rfl, .inl rfl, rfl, ?_⟩; show norm (optT (plusF (amt ([] ++ a.take k) x.o) x.a)) _; rw [hp]) | (refine ⟨(k + 1, _), ⟨?_, by (try dsimp only); omega⟩, [], ⟨⟨rfl, rfl⟩, ⟨rfl, rfl⟩, ⟨rfl, rfl⟩, ⟨rfl, rfl⟩, ⟨rfl, rfl⟩, ⟨rfl, rfl⟩, ⟨rfl, rfl⟩, trivial⟩, ⟨⟨rfl, rfl, rfl⟩, trivial⟩, rfl, rfl, rfl⟩; (try dsimp only); exact ⟨ks', by omega, hs', hset, hadd'⟩) | (refine ⟨by omega, fun r hrr => ?_⟩; (have hre : r = encS x := by (first | exact get_row hrr hx | fail)); subst hre) | refine ⟨⟨by omega, by omega⟩, ?_⟩ | fail)
   · rw [drop_end hkl, List.nil_append] at hadd
     rw [take_end hkl] at hs hadd ⊢
     repeat' ((conv => whnf); first | (refine ⟨fun h => ?_, fun h => ?_⟩ <;> try (exfalso; first | omega | (revert h; decide) | exact h rfl)) | (refine ⟨(1, _), ⟨?_, by (try dsimp only); omega⟩, [], ⟨⟨rfl, rfl⟩, ⟨rfl, rfl⟩, ⟨rfl, rfl⟩, ⟨rfl, rfl⟩, trivial⟩, ⟨⟨rfl, rfl, rfl⟩, trivial⟩, rfl, rfl, rfl⟩; (try dsimp only); exact ⟨ks, by omega, hs, rfl, hadd⟩) | refine ⟨⟨by omega, by omega⟩, ?_⟩ | fail)
 · change Sums a ks at hs
   change addO a b = _ at hadd
   replace hadd : addO a (b ++ []) = addO [] (a ++ b) := by rw [List.append_nil]; exact hadd
   repeat' ((conv => whnf); first | (refine ⟨fun h => ?_, fun h => ?_⟩ <;> try (exfalso; first | omega | (revert h; decide) | exact h rfl)) | (refine ⟨(by simp), fun r hr => ?_⟩; (have hre : [CV.sl 2 (b.map encS)] = r := by (first | exact Option.some.inj hr | fail)); subst hre) | refine ⟨⟨by omega, by omega⟩, ?_⟩ | fail)
   refine ⟨Nat × (List (List Int × List CV)), fun xq => ⟨[(6, .mp 0), (19, L 1 [[CV.sl 2 (a.map encS)], [CV.sl 2 (b.map encS)]]), (20, I 2), (21, I 1), (25, L 2 (b.map encS)), (26, I (b.map encS).length), (27, I xq.1)], [(0, .map 0 false xq.2)], 1⟩, fun xq => ∃ ks, xq.1 ≤ b.length ∧ Sums (a ++ b.take xq.1) ks ∧ xq.2 = kvOf (amt (a ++ b.take xq.1)) ks ∧ addO (a ++ b.take xq.1) (b.drop xq.1 ++ []) = addO [] (a ++ b), fun xq => b.length - xq.1, ⟨(0, _), ?_, [], ⟨⟨rfl, rfl⟩, ⟨rfl, rfl⟩, ⟨rfl, rfl⟩, ⟨rfl, rfl⟩, ⟨rfl, rfl⟩, ⟨rfl, rfl⟩, ⟨rfl, rfl⟩, trivial⟩, ⟨⟨rfl, rfl, rfl⟩, trivial⟩, rfl, rfl, rfl⟩, ?_⟩
   · (try dsimp only); exact ⟨ks, Nat.zero_le _, by rw [List.take_zero, List.append_nil]; exact hs, by rw [List.take_zero, List.append_nil]; rfl, by rw [List.take_zero, List.append_nil]; exact hadd⟩
   rintro ⟨k, kv⟩ hk
   obtain ⟨ks, hk, hs, rfl, hadd⟩ : ∃ ks, k ≤ b.length ∧ Sums (a ++ b.take k) ks ∧ kv = kvOf (amt (a ++ b.take k)) ks ∧ addO (a ++ b.take k) (b.drop k ++ []) = addO [] (a ++ b) := hk
   (try dsimp only)
   have hlb : (b.map encS).length = b.length := List.length_map ..
   by_cases hkl : k < b.length
   · obtain ⟨x, hx⟩ := getElem_some hkl
     rw [drop_of hx, List.cons_append] at hadd
     obtain ⟨b0, b1⟩ := hs.bnd x.o
     cases hp : plusF (amt (a ++ b.take k) x.o) x.a with
     | none =>
       have hbad := addO_bad hadd hp
       repeat' ((conv => whnf); first | refine look_kv (fun hn => hs.zero hn) ?_ | (refine ⟨fun h => ?_, fun h => ?_⟩ <;> try (exfalso; first | omega | (revert h; decide) | exact h rfl)) | (refine ⟨_, plus_h, (amt (a ++ b.take k) x.o, x.a), ⟨b0, b1⟩, leVs_of_eq rfl, .inl rfl, rfl, ?_⟩; show norm (optT (plusF (amt (a ++ b.take k) x.o) x.a)) _; rw [hp]) | (refine ⟨by omega, fun r hrr => ?_⟩; (have hre : r = encS x := by (first | exact get_row hrr hx | fail)); subst hre) | fail)
       all_goals (refine ⟨[], rfl, trivial, ?_⟩; show leR _ (addT a b); unfold addT; rw [hbad]; exact ⟨rfl, rfl, trivial⟩)
     | some v =>
       obtain ⟨ks', hs', hset⟩ := hs.step hp
       have hadd' := addO_step hadd hp
       rw [List.append_assoc, ← take_snoc b k x hx] at hs' hset hadd'
       repeat' ((conv => whnf); first | refine look_kv (fun hn => hs.zero hn) ?_ | (refine ⟨fun h => ?_, fun h => ?_⟩ <;> try (exfalso; first | omega | (revert h; decide) | exact h rfl)) | (refine ⟨_, plus_h, (amt (a ++ b.take k) x.o, x.a), ⟨b0, b1⟩, leVs_of_eq rfl, .inl rfl, rfl, ?_⟩; show norm (optT (plusF (amt (a ++ b.take k) x.o) x.a)) _; rw [hp]) | (refine ⟨(k + 1, _), ⟨?_, by (try dsimp only); omega⟩, [], ⟨⟨rfl, rfl⟩, ⟨rfl, rfl⟩, ⟨rfl, rfl⟩, ⟨rfl, rfl⟩, ⟨rfl, rfl⟩, ⟨rfl, rfl⟩, ⟨rfl, rfl⟩, trivial⟩, ⟨⟨rfl, rfl, rfl⟩, trivial⟩, rfl, rfl, rfl⟩; (try dsimp only); exact ⟨ks', by omega, hs', hset, hadd'⟩) | (refine ⟨by omega, fun r hrr => ?_⟩; (have hre : r = encS x := by (first | exact get_row hrr hx | fail)); subst hre) | refine ⟨⟨by omega, by omega⟩, ?_⟩ | fail)
   · rw [drop_end hkl, List.nil_append] at hadd
     rw [take_end hkl] at hs hadd ⊢
     repeat' ((conv => whnf); first | (refine ⟨fun h => ?_, fun h => ?_⟩ <;> try (exfalso; first | omega | (revert h; decide) | exact h rfl)) | (refine ⟨(2, _), ⟨?_, by (try dsimp only); omega⟩, [], ⟨⟨rfl, rfl⟩, ⟨rfl, rfl⟩, ⟨rfl, rfl⟩, ⟨rfl, rfl⟩, trivial⟩, ⟨⟨rfl, rfl, rfl⟩, trivial⟩, rfl, rfl, rfl⟩; (try dsimp only); exact ⟨ks, by omega, hs, rfl, hadd⟩) | refine ⟨⟨by omega, by omega⟩, ?_⟩ | fail)
 · change Sums (a ++ b) ks at hs
   change addO (a ++ b) [] = _ at hadd
   have hgood : addO [] (a ++ b) = true := by rw [← hadd]; rfl
   have hz := sorted_keys hs.nd hs.mem
   have hkl := keysL_len (a ++ b)
   rw [List.length_append] at hkl
   have hksl : (kvOf (amt (a ++ b)) ks).length ≤ 1000000 := by have := hs.len; rw [List.length_append] at this; rw [kvOf, List.length_map]; omega
   have hks : ∀ p ∈ kvOf (amt (a ++ b)) ks, ∃ n : Int, p.1 = [n] ∧ (Lit.int .i64 n).wf = true := by
     intro p hp
     obtain ⟨o, ho, rfl⟩ := List.mem_map.1 hp
     obtain ⟨x, hx, rfl⟩ := List.mem_map.1 ((hs.mem o).1 ho)
     exact ⟨_, rfl, hok x hx⟩
   have hnd : ((kvOf (amt (a ++ b)) ks).map fun p => headI p.1).Nodup := by rw [kv_head]; exact hs.nd
   have hz' : keysL (a ++ b) = ((kvOf (amt (a ++ b)) ks).map fun p => headI p.1).mergeSort Go.leI := by rw [kv_head]; exact hz
   repeat' ((conv => whnf); first | (refine ⟨fun h => ?_, fun h => ?_⟩ <;> try (exfalso; first | omega | (revert h; decide) | exact h rfl)) | refine keys_x _ _ rfl _ ?_ | refine sorted_x _ _ _ rfl rfl hksl hks hnd (keysL (a ++ b)) hz' _ ?_ | fail)
   refine ⟨Nat × (List (List CV)), fun xq => ⟨[(6, .mp 0), (13, .osl 1), (51, .osl 2), (52, I ((keysL (a ++ b)).map fun n => [CV.int .i64 n]).length), (53, I xq.1)], [(0, .map 0 false (kvOf (amt (a ++ b)) ks)), (1, .row 47 2 xq.2), (2, .row 3 1 ((keysL (a ++ b)).map fun n => [CV.int .i64 n]))], 3⟩, fun xq => xq.1 ≤ (keysL (a ++ b)).length ∧ xq.2 = (fewK (a ++ b) ((keysL (a ++ b)).take xq.1)).map encS, fun xq => (keysL (a ++ b)).length - xq.1, ⟨(0, _), ?_, [(0, 0), (1, 1), (2, 3)], ⟨⟨rfl, rfl⟩, ⟨rfl, rfl⟩, ⟨rfl, rfl⟩, ⟨rfl, rfl⟩, ⟨rfl, rfl⟩, trivial⟩, ⟨⟨rfl, rfl, rfl⟩, ⟨rfl, rfl, rfl⟩, ⟨rfl, rfl, rfl⟩, trivial⟩, rfl, rfl, rfl⟩, ?_⟩
   · (try dsimp only); exact ⟨Nat.zero_le _, rfl⟩
   rintro ⟨k, es⟩ hk
   obtain ⟨hk, rfl⟩ : k ≤ (keysL (a ++ b)).length ∧ es = (fewK (a ++ b) ((keysL (a ++ b)).take k)).map encS := hk
   (try dsimp only)
   have hlz : ((keysL (a ++ b)).map fun n => [CV.int .i64 n]).length = (keysL (a ++ b)).length := List.length_map ..
   have hfl := fewK_len (a ++ b) ((keysL (a ++ b)).take k)
   have hfl1 : ((fewK (a ++ b) ((keysL (a ++ b)).take k)).map encS).length = (fewK (a ++ b) ((keysL (a ++ b)).take k)).length := List.length_map ..
   rw [List.length_take] at hfl
   by_cases hkk : k < (keysL (a ++ b)).length
   · obtain ⟨o, ho⟩ := getElem_some hkk
     have gk : ((keysL (a ++ b)).map fun n => [CV.int .i64 n])[(k : Int).toNat]? = some [.int .i64 o] := by rw [Int.toNat_natCast, List.getElem?_map, ho]; rfl
     by_cases h0 : amt (a ++ b) o = 0
     · have hst := fewK_no ho h0
       repeat' ((conv => whnf); first | refine look_kv (fun hn => hs.zero hn) ?_ | (refine ⟨fun h => ?_, fun h => ?_⟩ <;> try (exfalso; first | omega | (revert h; decide) | exact h rfl)) | refine get_at gk ?_ | (refine ⟨(k + 1, _), ⟨?_, by (try dsimp only); omega⟩, [], ⟨⟨rfl, rfl⟩, ⟨rfl, rfl⟩, ⟨rfl, rfl⟩, ⟨rfl, rfl⟩, ⟨rfl, rfl⟩, trivial⟩, ⟨⟨rfl, rfl, rfl⟩, ⟨rfl, rfl, rfl⟩, ⟨rfl, rfl, rfl⟩, trivial⟩, rfl, rfl, rfl⟩; (try dsimp only); exact ⟨by omega, by rw [hst]⟩) | refine ⟨⟨by omega, by omega⟩, ?_⟩ | fail)
     · have hst := fewK_yes ho h0
       repeat' ((conv => whnf); first | refine look_kv (fun hn => hs.zero hn) ?_ | (refine ⟨fun h => ?_, fun h => ?_⟩ <;> try (exfalso; first | omega | (revert h; decide) | exact h rfl)) | refine get_at gk ?_ | (refine ⟨(k + 1, _), ⟨?_, by (try dsimp only); omega⟩, [(0, 0), (1, 3), (2, 2)], ⟨⟨rfl, rfl⟩, ⟨rfl, rfl⟩, ⟨rfl, rfl⟩, ⟨rfl, rfl⟩, ⟨rfl, rfl⟩, trivial⟩, ⟨⟨rfl, rfl, rfl⟩, ⟨rfl, rfl, rfl⟩, ⟨rfl, rfl, rfl⟩, trivial⟩, rfl, rfl, rfl⟩; (try dsimp only); exact ⟨by omega, by rw [hst, List.map_append]; rfl⟩) | refine ⟨⟨by omega, by omega⟩, ?_⟩ | (refine ⟨⟨by simp only [List.length_cons, List.length_nil]; omega, by simp only [List.length_cons, List.length_nil]; omega⟩, ?_⟩) | fail)
   · rw [take_end hkk, fewK_all]
     repeat' ((conv => whnf); first | (refine ⟨fun h => ?_, fun h => ?_⟩ <;> try (exfalso; first | omega | (revert h; decide) | exact h rfl)) | fail)
     all_goals (refine ⟨[], rfl, trivial, ?_⟩; show leR _ (addT a b); unfold addT; rw [hgood]; exact ⟨rfl, rfl, trivial⟩)
theorem add_h : Holds Tryz.prog 12 addS := holds_of mix Tryz.func12 addLow (fun _ => rfl) addV
end Go.Proofs.YtjpdaapjnpdiiaaGreat
namespace Go.Proofs.YtjpdaapjnpdiiaaGreat
open Go.RowKit
theorem tab_lt (p : List Share) : (tabL p).Pairwise fun x y => x.o < y.o := by
 rw [tabL, List.pairwise_map]; exact (keysL_spec p).1
theorem tab_amt {p : List Share} {y : Share} (h : y ∈ tabL p) : y.a = amt p y.o := by
 obtain ⟨o, _, rfl⟩ := List.mem_map.1 h; rfl
theorem tab_len (p : List Share) : (tabL p).length ≤ p.length := by rw [tabL, List.length_map]; exact keysL_len p
end Go.Proofs.YtjpdaapjnpdiiaaGreat
namespace Go.Proofs.YtjpdaapjnpdiiaaGreat
open Go.RowKit
section
variable {a : Int} {ws : List Int} (g : Good a ws)
include g
end
theorem fewL_lt (p : List Share) : (fewL p).Pairwise fun x y => x.o < y.o := (tab_lt p).sublist List.filter_sublist
theorem fewL_nz {p : List Share} {x : Share} (h : x ∈ fewL p) : x.a ≠ 0 := of_decide_eq_true (List.mem_filter.1 h).2
theorem one_sum {o c : Int} : ∀ {ks : List Int}, ks.Nodup → o ∈ ks → (ks.map fun z => if o = z then c else 0).sum = c
 | [], _, h => by simp at h
 | y :: r, hn, h => by
   obtain ⟨h1, h2⟩ := List.nodup_cons.1 hn
   rw [List.map_cons, List.sum_cons]
   by_cases e : o = y
   · subst e
     rw [if_pos rfl]
     have : ∀ {l : List Int}, o ∉ l → (l.map fun z => if o = z then c else 0).sum = 0 := by
       intro l
       induction l with
       | nil => intro _; rfl
       | cons z t ih => intro h; rw [List.map_cons, List.sum_cons, if_neg (fun e => h (by simp [e])), ih fun e => h (by simp [e])]; rfl
     rw [this h1]; omega
   · rw [if_neg e, one_sum h2 (by rcases List.mem_cons.1 h with h | h; exact absurd h e; exact h)]; omega
theorem zero_sum : ∀ l : List Int, (l.map fun _ => (0 : Int)).sum = 0
 | [] => rfl
 | y :: r => by rw [List.map_cons, List.sum_cons, zero_sum r]; rfl
theorem amt_sum {ks : List Int} (hn : ks.Nodup) : ∀ {p : List Share}, (∀ x ∈ p, x.o ∈ ks) → (ks.map (amt p)).sum = (p.map fun x : Share => x.a).sum
 | [], _ => by
   have : ks.map (amt []) = ks.map fun _ => 0 := rfl
   rw [this, zero_sum]; rfl
 | x :: r, h => by
   have h1 := amt_sum hn (p := r) fun y hy => h y (by simp [hy])
   have h2 := one_sum (c := x.a) hn (h x (by simp))
   have h3 : ∀ l : List Int, (l.map (amt (x :: r))).sum = (l.map fun z => if x.o = z then x.a else 0).sum + (l.map (amt r)).sum := by
     intro l
     induction l with
     | nil => rfl
     | cons z t ih =>
       have e : amt (x :: r) z = (if x.o = z then x.a else 0) + amt r z := by simp only [amt, List.map_cons, List.sum_cons]
       simp only [List.map_cons, List.sum_cons, ih, e]; omega
   rw [h3, h1, h2, List.map_cons, List.sum_cons]
theorem nz_sum : ∀ l : List Share, ((l.filter fun x => decide (x.a ≠ 0)).map fun x : Share => x.a).sum = (l.map fun x : Share => x.a).sum
 | [] => rfl
 | x :: r => by
   have ih := nz_sum r
   rw [List.filter_cons]
   split
   · rw [List.map_cons, List.map_cons, List.sum_cons, List.sum_cons, ih]
   · rename_i h
     simp at h
     rw [ih, List.map_cons, List.sum_cons, h]; omega
theorem few_sum (p : List Share) : ((fewL p).map fun x : Share => x.a).sum = (p.map fun x : Share => x.a).sum := by
 rw [fewL, nz_sum, tabL, List.map_map]
 have h1 := (keysL_spec p)
 exact amt_sum (h1.1.imp fun h => by omega) fun x hx => (h1.2 _).2 (List.mem_map.2 ⟨x, hx, rfl⟩)
end Go.Proofs.YtjpdaapjnpdiiaaGreat
