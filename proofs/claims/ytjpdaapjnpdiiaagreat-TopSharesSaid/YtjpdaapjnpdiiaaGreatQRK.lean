/- A part of the proof. -/
import Derived.Test.YtjpdaapjnpdiiaaGreatE3
import Derived.Test.YtjpdaapjnpdiiaaGreatShelf
import Derived.Test.YtjpdaapjnpdiiaaGreatProg
namespace Go.Proofs.YtjpdaapjnpdiiaaGreat.P
open Go.RowKit Go.Maps Go.Sort Go.Shelf
def anyVal (_ : Value) : Option (DataW Unit × List MemPlace) := some (.lit (.bool true), [])
def keyNum : Value → Int
 | .int _ a => a
 | _ => 0
def headI (l : List Int) : Int := l.headD 0
section
variable {P : Program} {w : World}
theorem own_of_map {k : TypeId} (hk : P.underlying k = some (.int .i64)) {b ck : Nat} {arr : Array MapEntry} {ag : Bool} {kv : List (List Int × List CV)} (hb : w.heap[b]? = some (.map arr ck)) (hbn : Born arr ck)
   (he : arr.toList.map (fun e => (e.key, e.val)) = kv.map (fun p => (encKey 0 p.1, encCell ag p.2))) (hl : kv.length ≤ 1000000) (hks : ∀ p ∈ kv, ∃ n : Int, p.1 = [n] ∧ (Lit.int .i64 n).wf = true) (hnd : (kv.map fun p => headI p.1).Nodup) :
   ∃ D0 : DataW Unit, w.ownsMap P k anyVal b kv.length D0 ∧ (intKeys D0).Perm (kv.map fun p => headI p.1) ∧ Maps.size D0 = kv.length := by
 have hlen : arr.toList.length = kv.length := by simpa using congrArg List.length he
 have hkey : arr.toList.map (fun e => e.key) = kv.map (fun p => encKey 0 p.1) := by
   have := congrArg (List.map Prod.fst) he
   simpa [List.map_map, Function.comp_def] using this
 have hnum : arr.toList.map (fun e => keyNum e.key) = kv.map (fun p => headI p.1) := by
   have := congrArg (List.map keyNum) hkey
   rw [List.map_map, List.map_map] at this
   refine this.trans (List.map_congr_left fun p hp => ?_)
   obtain ⟨n, e, _⟩ := hks p hp
   rw [Function.comp, e]; rfl
 have hform : ∀ x ∈ arr.toList, ∃ n : Int, x.key = .int .i64 n ∧ (Lit.int .i64 n).wf = true := by
   intro x hx
   have h1 : x.key ∈ kv.map (fun p => encKey 0 p.1) := by rw [← hkey]; exact List.mem_map.2 ⟨x, hx, rfl⟩
   obtain ⟨p, hp, e⟩ := List.mem_map.1 h1
   obtain ⟨n, e', hw⟩ := hks p hp
   exact ⟨n, by rw [← e, e']; rfl, hw⟩
 have hrd : ∀ x ∈ arr.toList, ∃ n : Int, x.key = .int .i64 n ∧ WideElems.rd P k anyVal x = some (.int .i64 n, .lit (.bool true)) := by
   intro x hx
   obtain ⟨n, e, hw⟩ := hform x hx
   refine ⟨n, e, ?_⟩
   unfold WideElems.rd
   rw [e, keyOf_int_mk hk hw]; rfl
 have hasz : arr.size = arr.toList.length := by simp
 have hmx : maxLen = 9223372036854775807 := rfl
 have hfit : WideElems.Fit P k anyVal arr ck := by
   refine ⟨by omega, ⟨hbn.1, hbn.2, ?_⟩, fun x hx => ?_⟩
   · have h1 : (arr.toList.map fun e => keyNum e.key).Nodup := by rw [hnum]; exact hnd
     rw [List.Nodup, List.pairwise_map] at h1 ⊢
     exact h1.imp fun h e => h (by rw [e])
   · obtain ⟨n, _, e⟩ := hrd x hx; exact ⟨_, e⟩
 refine ⟨.map ((arr.toList.map (WideElems.rg P k anyVal)).foldr DataW.insert []), ⟨arr, ck, hb, hfit, by omega, rfl⟩, ?_, ?_⟩
 · show (((arr.toList.map (WideElems.rg P k anyVal)).foldr DataW.insert []).map fun p => Go.intOf p.1).Perm _
   refine ((WideShapes.sorted_perm _).map _).trans ?_
   rw [List.map_map, ← hnum]
   refine List.Perm.of_eq (List.map_congr_left fun x hx => ?_)
   obtain ⟨n, e1, e2⟩ := hrd x hx
   rw [Function.comp, WideElems.rg_of e2, e1]; rfl
 · show ((arr.toList.map (WideElems.rg P k anyVal)).foldr DataW.insert []).length = _
   rw [(WideShapes.sorted_perm _).length_eq, List.length_map, hlen]
end
theorem keys_x (s : St) (id : Nat) {kv : List (List Int × List CV)} (hh : look s.heap id = some (.map 0 false kv)) (K : SV → St → Prop) (hK : K (.fn 60 [.bp s.nx 0]) (s.new (.box [.mp id]))) : callX Tryz.prog 32 s [.mp id] K := by
 refine ⟨fun v s' => v = .fn 60 [.bp s.nx 0] ∧ s' = s.new (.box [.mp id]), fun F w0 ι w us hm hr => ?_, fun v s' h => by obtain ⟨rfl, rfl⟩ := h; exact hK⟩
 have hr' := hr
 obtain ⟨u, ur, rfl, hu, hur⟩ := replist_cons hr
 obtain rfl := replist_nil hur
 have hu' := hu
 cases hu with
 | mp _ _ hx h1 h =>
   obtain ⟨b, c, hι, rfl⟩ := h _ _ _ hh
   refine ((callsIn_wide (n := 5)).1 (AnyZI.keys_in Tryz.keysA Fence.wide 5 trivial rfl (some b) w)).mono ?_
   rintro e w' ⟨rfl, rfl⟩
   obtain ⟨hs, hp⟩ := step_box (cs := [.mp id]) (vs := #[.map (some b)]) hm (Tryz.keysA_ren.t 23) hr' (by intro s hs; simp at hs; subst hs; rfl)
   refine ⟨_, rfl, (fun e => absurd e (by decide)), _, _, s.new (.box [.mp id]), rfl, hs, ?_, rfl, rfl⟩
   refine .fn _ _ [_] rfl fun i s v hs hv => ?_
   match i with
   | 0 => simp at hs hv; subst hs; subst hv; exact hp
   | i + 1 => simp at hs
theorem sortsA (m : Nat) : AnyZI.SortsIn Tryz.prog Tryz.sortedA_ren Fence.wide m :=
 ⟨fun blk off cap ss W hH hblk hsz => callsIn_wide.2 (AnyM.slices_Sort_int Tryz.sortA blk off cap ss W hH hblk hsz),
  fun p cap W => callsIn_wide.2 (AnyM.slices_Sort_int_none Tryz.sortA p cap W)⟩
theorem flat1 (zs : List Int) : (zs.map fun n => [CV.int .i64 n]).flatten = zs.map (CV.int .i64) := by
 induction zs with
 | nil => rfl
 | cons x r ih => rw [List.map_cons, List.flatten_cons, ih]; rfl
theorem sorted_x (s : St) (j id : Nat) {kv : List (List Int × List CV)} (hj : look s.heap j = some (.box [.mp id])) (hh : look s.heap id = some (.map 0 false kv)) (hl : kv.length ≤ 1000000) (hks : ∀ p ∈ kv, ∃ n : Int, p.1 = [n] ∧ (Lit.int .i64 n).wf = true) (hnd : (kv.map fun p => headI p.1).Nodup)
   (zs : List Int) (hz : zs = (kv.map fun p => headI p.1).mergeSort Go.leI) (K : SV → St → Prop) (hK : K (.osl s.nx) (s.new (.row 3 1 (zs.map fun n => [CV.int .i64 n])))) : callX Tryz.prog 31 s [.fn 60 [.bp j 0]] K := by
 refine ⟨fun v s' => v = .osl s.nx ∧ s' = s.new (.row 3 1 (zs.map fun n => [CV.int .i64 n])), fun F w0 ι w us hm hr => ?_, fun v s' h => by obtain ⟨rfl, rfl⟩ := h; exact hK⟩
 obtain ⟨u, ur, rfl, hu, hur⟩ := replist_cons hr
 obtain rfl := replist_nil hur
 cases hu with
 | fn _ _ vs hvl hv =>
   obtain ⟨v, rfl⟩ : ∃ v, vs = [v] := by
     match vs, hvl with
     | [v], _ => exact ⟨v, rfl⟩
   have hv0 := hv 0 _ _ rfl rfl
   cases hv0 with
   | bp _ _ _ hx h1 h =>
     obtain ⟨bb, c, hι, rfl⟩ := h _ hj
     obtain ⟨bb', c', cur, e', hι', _, hcur, hsz, hcell⟩ := (hm.heap j _ hj).2
     rw [hι] at hι'; cases hι'
     obtain ⟨u0, hu0⟩ : ∃ u0, cur[0]? = some u0 := ⟨_, Array.getElem?_eq_getElem (by rw [hsz]; exact Nat.zero_lt_one)⟩
     have hrep := (hcell 0 _ _ rfl hu0).2
     cases hrep with
     | mp _ _ hx2 h2 hmp =>
       obtain ⟨bm, cm, hιm, rfl⟩ := hmp _ _ _ hh
       obtain ⟨bm', cm', arr, ck, hιm', _, ⟨hbm, hbn⟩, hent, _⟩ := (hm.heap id _ hh).2
       rw [hιm] at hιm'; cases hιm'
       obtain ⟨D0, hown, hperm, hsize⟩ := own_of_map (P := Tryz.prog) (k := 3) Tryz.underlying3 hbm hbn hent hl hks hnd
       have hbb : bb < w.heap.size := (Array.getElem?_eq_some_iff.1 hcur).1
       have hce : w.cell? ⟨bb, 0, none⟩ = some (.map (some bm)) := by simp [World.cell?, hcur, hu0]
       have hseq : SeqGives Fence.wide 2 Tryz.prog 60 #[.pointer (some ⟨bb, 0, none⟩)] encZ (fun ss => ss.Perm (intKeys D0)) (Maps.size D0) w :=
         AnyZI.keys_gives (ρ := Tryz.keysA_ren) { Tryz.keysA with } Fence.wide _ trivial rfl (by omega) bb bm _ D0 w hbb hce hown
       have hmx : maxLen = 9223372036854775807 := rfl
       have cS := AnyZI.sorted_in Tryz.sortedA Fence.wide 5 trivial trivial trivial trivial rfl (by omega) (sortsA _) (enters_of Tryz.func59 (by kernel_rfl) rfl) 60 #[.pointer (some ⟨bb, 0, none⟩)] trivial (enters_of Tryz.func60 (by kernel_rfl) rfl) _ _ (by rw [hsize]; omega) (by rw [hsize]; omega) _ hseq
       refine ((callsIn_wide (n := 5)).1 cS).mono ?_
       rintro e w' ⟨v, ss, rfl, hS, hrow, hnil, hb⟩
       have hzs : ss.mergeSort Go.leI = zs := by rw [hz]; exact mergeSort_of_perm_i (hS.trans hperm)
       have hlz : zs.length = ss.length := by rw [← hzs, (List.mergeSort_perm ss Go.leI).length_eq]
       have hrow' : w'.ownsRow w.heap.size 3 1 v (zs.map fun n => [CV.int .i64 n]).length (zs.map encZ) := by
         rw [List.length_map, hlz, ← hzs]; exact hrow
       obtain ⟨p, hpv, hp⟩ : ∃ p, v = ownVal p (zs.map fun n => [CV.int .i64 n]).length ∧ ∀ b c, p = some (b, c) → w.heap.size ≤ b := by
         rcases hrow'.2 with ⟨rfl, _⟩ | ⟨g, cap, cur', rfl, hg, _⟩
         · exact ⟨none, rfl, fun b c e => by cases e⟩
         · exact ⟨some (g, cap), rfl, fun b c e => by cases e; exact hg⟩
       rw [hpv] at hrow'
       have hst := step_row hm hb hp hrow' (by intro r hr; obtain ⟨n, _, rfl⟩ := List.mem_map.1 hr; rfl) (fun i c v hc hv => by
         rw [flat1] at hc
         rw [List.getElem?_map] at hc hv
         cases hzi : zs[i]? with
         | none => rw [hzi] at hc; cases hc
         | some n => rw [hzi] at hc hv; cases hc; cases hv; exact .int _ _)
       rw [hpv]
       exact ⟨_, rfl, (fun e => absurd e (by decide)), _, _, s.new (.row 3 1 (zs.map fun n => [CV.int .i64 n])), rfl, hst.1, hst.2, rfl, rfl⟩
end Go.Proofs.YtjpdaapjnpdiiaaGreat.P
