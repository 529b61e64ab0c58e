/- Periods: balances; the postings of a period. -/
import Derived.Test.YtpkhannkbafimaaGreatRN
namespace Go.Proofs.YtpkhannkbafimaaGreat
open Go.RowKit
/-- What is posted to an account, and from it. -/
def toA (l : List Pst) (v : Int) : Int := (l.map fun y => if y.to = v then y.am else 0).sum
def frA (l : List Pst) (v : Int) : Int := (l.map fun y => if y.fr = v then y.am else 0).sum
def amP (l : List Pst) : Prop := l.length ≤ 1000000 ∧ ∀ y ∈ l, 0 ≤ y.am ∧ y.am ≤ 1099511627776
theorem sumf_snoc {α : Type} (f : α → Int) {l : List α} {k : Nat} {x : α} (hx : l[k]? = some x) : ((l.take (k + 1)).map f).sum = ((l.take k).map f).sum + f x := by
  rw [take_snoc l k x hx, List.map_append, List.sum_append]
  simp
theorem sum_bndk {α : Type} (f : α → Int) {l : List α} {M : Int} (h : ∀ x ∈ l, 0 ≤ f x ∧ f x ≤ M) : ∀ k : Nat, k ≤ l.length → 0 ≤ ((l.take k).map f).sum ∧ ((l.take k).map f).sum ≤ M * (k : Int)
  | 0, _ => by simp
  | k + 1, hk => by
    obtain ⟨x, hx⟩ := getElem_some (show k < l.length by omega)
    have h1 := sum_bndk f h k (by omega)
    have h2 := h x (List.mem_of_getElem? hx)
    rw [sumf_snoc f hx]
    have e : M * ((k + 1 : Nat) : Int) = M * (k : Int) + M := by rw [Int.natCast_add, Int.mul_add]; simp
    omega
theorem toA_snoc {l : List Pst} {k : Nat} {x : Pst} (v : Int) (hx : l[k]? = some x) : toA (l.take (k + 1)) v = toA (l.take k) v + if x.to = v then x.am else 0 := sumf_snoc (fun y : Pst => if y.to = v then y.am else 0) hx
theorem frA_snoc {l : List Pst} {k : Nat} {x : Pst} (v : Int) (hx : l[k]? = some x) : frA (l.take (k + 1)) v = frA (l.take k) v + if x.fr = v then x.am else 0 := sumf_snoc (fun y : Pst => if y.fr = v then y.am else 0) hx
theorem toA_bnd {l : List Pst} (h : amP l) (v : Int) {k : Nat} (hk : k ≤ l.length) : 0 ≤ toA (l.take k) v ∧ toA (l.take k) v ≤ 1099511627776 * (k : Int) :=
  sum_bndk (fun y : Pst => if y.to = v then y.am else 0) (fun x hx => by have := h.2 x hx; split <;> omega) k hk
theorem frA_bnd {l : List Pst} (h : amP l) (v : Int) {k : Nat} (hk : k ≤ l.length) : 0 ≤ frA (l.take k) v ∧ frA (l.take k) v ≤ 1099511627776 * (k : Int) :=
  sum_bndk (fun y : Pst => if y.fr = v then y.am else 0) (fun x hx => by have := h.2 x hx; split <;> omega) k hk
def balA (l : List Pst) (v : Int) : Int := toA l v - frA l v
theorem balA_bnd {l : List Pst} (h : amP l) (v : Int) : -1099511627776000000 ≤ balA l v ∧ balA l v ≤ 1099511627776000000 := by
  have h1 := toA_bnd h v (Nat.le_refl l.length)
  have h2 := frA_bnd h v (Nat.le_refl l.length)
  rw [List.take_length] at h1 h2
  have hl := h.1
  unfold balA
  omega
/-- The postings of the transfers of a period. -/
def refsF (n : Int) : Nat → List Tfer → List Pst
  | _, [] => []
  | i, t :: r => refP n i t :: refsF n (i + 1) r
theorem refsF_len (n : Int) : ∀ (T : List Tfer) (i : Nat), (refsF n i T).length = T.length
  | [], _ => rfl
  | _ :: r, i => congrArg (· + 1) (refsF_len n r (i + 1))
theorem refsF_get (n : Int) : ∀ (T : List Tfer) (i k : Nat), (refsF n i T)[k]? = T[k]?.map (refP n (i + k))
  | [], _, _ => by simp [refsF]
  | t :: r, i, 0 => rfl
  | t :: r, i, k + 1 => by
    show (refsF n (i + 1) r)[k]? = r[k]?.map _
    rw [refsF_get n r (i + 1) k, show i + 1 + k = i + (k + 1) by omega]
theorem refs_bal (n v : Int) : ∀ (T : List Tfer) (i : Nat), toA (refsF n i T) v - frA (refsF n i T) v = bal T v
  | [], _ => rfl
  | t :: r, i => by
    have := refs_bal n v r (i + 1)
    have h1 : toA (refsF n i (t :: r)) v = (if t.t = v then t.a else 0) + toA (refsF n (i + 1) r) v := by unfold toA; rw [refsF, List.map_cons, List.sum_cons]; rfl
    have h2 : frA (refsF n i (t :: r)) v = (if t.f = v then t.a else 0) + frA (refsF n (i + 1) r) v := by unfold frA; rw [refsF, List.map_cons, List.sum_cons]; rfl
    rw [h1, h2, bal]
    omega
theorem balA_app (a b : List Pst) (v : Int) : balA (a ++ b) v = balA a v + balA b v := by
  unfold balA toA frA
  rw [List.map_append, List.map_append, List.sum_append, List.sum_append]
  omega
theorem postAll_refs {n : Int} : ∀ (T : List Tfer) (i : Nat) (po : List Pst), (∀ y ∈ po, ∀ j : Nat, i ≤ j → j < i + T.length → y.ref ≠ n * 100 + j + 1) → (postAll n i T po).2 = 0 → (postAll n i T po).1 = po ++ refsF n i T
  | [], _, po, _, _ => (List.append_nil po).symm
  | t :: r, i, po, hn, h2 => by
    obtain ⟨q1, q2⟩ := postAll_cons h2
    have hnot : refP n i t ∉ po := fun hm => hn _ hm i (Nat.le_refl i) (by rw [List.length_cons]; omega) rfl
    have hadd : addF po (refP n i t) = po ++ [refP n i t] := if_neg hnot
    have q5 := (postF_led q1).2.2
    rw [hadd] at q5
    rw [q2] at h2 ⊢
    rw [q5] at h2 ⊢
    rw [postAll_refs r (i + 1) _ (fun y hy j h1 hj => ?_) h2, List.append_assoc]
    · rfl
    · rcases List.mem_append.1 hy with hy | hy
      · exact hn y hy j (by omega) (by rw [List.length_cons]; omega)
      · rw [List.mem_singleton.1 hy]
        show n * 100 + i + 1 ≠ n * 100 + j + 1
        omega
theorem fe_first {f : Nat → Int} {n : Nat} (h : fe f n = 0) {k : Nat} (hk : k < n) : f k = 0 := fe_all h k hk
theorem led_ok {l : List Pst} (h : ledR l = 0) : ∀ y ∈ l, ledP y := by
  have hl := led_len h
  unfold ledR at h
  rw [if_neg (by omega)] at h
  intro y hy
  obtain ⟨k, hk⟩ := List.mem_iff_getElem?.1 hy
  have h0 := fe_all h k (List.getElem?_eq_some_iff.1 hk).1
  unfold ledE at h0
  rw [at_of hk] at h0
  by_cases hp : ledP y
  · exact hp
  · rw [if_pos hp] at h0; cases h0
theorem led_am {l : List Pst} (h : ledR l = 0) : amP l := ⟨by have := led_len h; omega, fun y hy => by have := (led_ok h y hy).2.2.2; omega⟩
/-- Is there a posting with one of the refs of a period's transfers? -/
def takenB (l : List Pst) (n : Int) : Bool := l.any fun y => decide (IntKind.wrap .i64 (n * 100) < y.ref) && decide (y.ref ≤ IntKind.wrap .i64 (IntKind.wrap .i64 (n * 100) + 8))
theorem taken_no {l : List Pst} {n : Int} (h : takenB l n = false) (h1 : 1 ≤ n) (h2 : n ≤ 1000) : ∀ y ∈ l, ∀ j : Nat, j < 8 → y.ref ≠ n * 100 + j + 1 := by
  intro y hy j hj e
  have h0 := List.any_eq_false.1 h y hy
  rw [wrap_small (by omega) (by omega), wrap_small (by omega) (by omega)] at h0
  exact h0 (by rw [Bool.and_eq_true]; exact ⟨decide_eq_true (by omega), decide_eq_true (by omega)⟩)
theorem least_7 {l : List Share} (h : RightP l) : leastF l ≤ 7 := by
  obtain ⟨_, h2, h3⟩ := least_bounds h
  have := (nzl_nz h).len
  by_cases e : (nzl l).length = 0
  · rw [h2 e]; omega
  · have := h3 e; omega
/-- What Close leaves when no ref is taken. -/
structure SetP (b : Bk) (n : Int) (due rec : List Share) (y : Bk) : Prop where
  right : RB y
  po : y.po = b.po ++ refsF n 0 (cloT due rec)
  len : y.po.length = b.po.length + leastF (posL due rec)
  bal : ∀ x ∈ posL due rec, balA y.po x.o - balA b.po x.o = x.a
theorem set_of {b : Bk} (h : RB b) {n : Int} {due rec : List Share} {x : Per} (hc : ClsP b n due rec x) (ht : takenB b.po n = false) : SetP b n due rec (clsB b n due rec) := by
  have hR := posL_right hc.a1 hc.a2 hc.sum
  have hN := netF_spec hR
  have h64 := h.p64
  have hlo := hc.lo
  have hhi := hc.hi
  have hT8 : (cloT due rec).length ≤ 7 := by show (netF _).length ≤ 7; rw [hN.len]; exact least_7 hR
  have hpo : (clsB b n due rec).po = b.po ++ refsF n 0 (cloT due rec) := by
    rw [hc.res]
    exact postAll_refs _ 0 _ (fun y hy j _ hj => taken_no ht hlo (by omega) y hy j (by omega)) hc.ok
  refine ⟨h.close hc, hpo, ?_, fun z hz => ?_⟩
  · rw [hpo, List.length_append, refsF_len]
    show _ + (netF _).length = _
    rw [hN.len]
  · have hb := refs_bal n z.o (cloT due rec) 0
    have hb2 : balA (refsF n 0 (cloT due rec)) z.o = bal (cloT due rec) z.o := hb
    rw [hpo, balA_app, hb2]
    show balA b.po z.o + bal (netF _) z.o - _ = _
    rw [hN.bal, posAt_one hR.inc z hz]
    omega

/-! skiarea/ledger.Turnover -/
def turnIr : IFn := ⟨35, [.tmp 4, .tmp 5],
  (.seq (.ops [
    ⟨(some 4), .mov, [.const (.int .i64 0)], none⟩,
    ⟨(some 5), .mov, [.const (.int .i64 0)], none⟩] false)
  (.seq (.ops [
    ⟨(some 6), .mov, [.const (.int .i64 0)], none⟩,
    ⟨(some 7), .mov, [.const (.int .i64 0)], none⟩] false)
  (.seq (.seq (.ops [
    ⟨(some 10), .mov, [.tmp 0], none⟩,
    ⟨(some 11), .len, [.tmp 10], none⟩,
    ⟨(some 12), .mov, [.const (.int .i64 0)], none⟩] false)
  (.block 0
    (.loop
      (.seq (.ops [
        ⟨(some 13), .cmp .lss, [.tmp 12, .tmp 11], none⟩] false)
      (.seq (.cond (.tmp 13)
        .skip
        (.exit 0))
      (.seq (.block 1
        (.seq (.ops [
          ⟨(some 14), .idx 4, [.tmp 10, .tmp 12], none⟩,
          ⟨(some 15), .load 4 true, [.tmp 14], none⟩,
          ⟨(some 9), .alloc [.int .i64 0, .int .i64 0, .int .i64 0, .int .i64 0], [], none⟩,
          ⟨none, .store 4, [.tmp 9, .tmp 15], none⟩] false)
        (.seq (.seq (.ops [
          ⟨(some 16), .faddr 2, [.tmp 9], none⟩,
          ⟨(some 17), .load 1 false, [.tmp 16], none⟩,
          ⟨(some 18), .mov, [.tmp 1], none⟩,
          ⟨(some 19), .cmp .eql, [.tmp 17, .tmp 18], none⟩] false)
        (.cond (.tmp 19)
          (.ops [
            ⟨(some 20), .mov, [.tmp 6], none⟩,
            ⟨(some 21), .faddr 3, [.tmp 9], none⟩,
            ⟨(some 22), .load 1 false, [.tmp 21], none⟩,
            ⟨(some 23), .bin .add .i64 false, [.tmp 20, .tmp 22], none⟩,
            ⟨(some 6), .mov, [.tmp 23], none⟩] false)
          .skip))
        (.seq (.ops [
          ⟨(some 24), .faddr 1, [.tmp 9], none⟩,
          ⟨(some 25), .load 1 false, [.tmp 24], none⟩,
          ⟨(some 26), .mov, [.tmp 1], none⟩,
          ⟨(some 27), .cmp .eql, [.tmp 25, .tmp 26], none⟩] false)
        (.cond (.tmp 27)
          (.ops [
            ⟨(some 28), .mov, [.tmp 7], none⟩,
            ⟨(some 29), .faddr 3, [.tmp 9], none⟩,
            ⟨(some 30), .load 1 false, [.tmp 29], none⟩,
            ⟨(some 31), .bin .add .i64 false, [.tmp 28, .tmp 30], none⟩,
            ⟨(some 7), .mov, [.tmp 31], none⟩] false)
          .skip)))))
      (.ops [
        ⟨(some 32), .bin .add .i64 false, [.tmp 12, .const (.int .i64 1)], none⟩,
        ⟨(some 12), .mov, [.tmp 32], none⟩] false)))))))
  (.seq (.ops [
    ⟨(some 33), .mov, [.tmp 6], none⟩,
    ⟨(some 34), .mov, [.tmp 7], none⟩,
    ⟨(some 4), .mov, [.tmp 33], none⟩,
    ⟨(some 5), .mov, [.tmp 34], none⟩] false)
  .ret))))⟩
theorem turnLow : lowF Tryz.prog {} Tryz.f70 = some turnIr := by kernel_rfl
def turnS : Spec := spec (List Pst × Int) (fun p => [L 4 (p.1.map encO), I p.2]) (fun p => amP p.1) (fun p => .tup [I (toA p.1 p.2), I (frA p.1 p.2)])
theorem turnV : fnV Tryz.prog turnIr turnS := by
  intro ⟨(l : List Pst), (v : Int)⟩ hp
  replace hp : amP l := hp
  have hlen := hp.1
  have hl : (l.map encO).length = l.length := List.length_map ..
  show vc _ _ _ _ ⟨argEnv 0 [L 4 (l.map encO), I v], [], 0⟩
  conv => whnf
  refine ⟨Nat × Int × Int, fun xq => ⟨[(1, I v), (6, I xq.2.1), (7, I xq.2.2), (10, L 4 (l.map encO)), (11, I (l.map encO).length), (12, I xq.1)], [], 0⟩, fun xq => xq.1 ≤ l.length ∧ xq.2.1 = toA (l.take xq.1) v ∧ xq.2.2 = frA (l.take xq.1) v, fun xq => l.length - xq.1, ⟨(0, 0, 0), ?_, [], ⟨⟨rfl, rfl⟩, ⟨⟨rfl, rfl⟩, ⟨⟨rfl, rfl⟩, ⟨⟨rfl, rfl⟩, ⟨⟨rfl, rfl⟩, ⟨⟨rfl, rfl⟩, trivial⟩⟩⟩⟩⟩⟩, trivial, rfl, rfl, rfl⟩, ?_⟩
  · (try dsimp only); exact ⟨Nat.zero_le _, rfl, rfl⟩
  rintro ⟨k, i, o⟩ hk
  obtain ⟨hk, hi, ho⟩ : k ≤ l.length ∧ i = toA (l.take k) v ∧ o = frA (l.take k) v := hk
  (try dsimp only)
  have b1 := toA_bnd hp v hk
  have b2 := frA_bnd hp v hk
  rw [← hi] at b1
  rw [← ho] at b2
  by_cases hkl : k < l.length
  · obtain ⟨x, hx⟩ := getElem_some hkl
    have hxa := hp.2 x (List.mem_of_getElem? hx)
    have e1 := toA_snoc v hx
    have e2 := frA_snoc v hx
    rw [← hi] at e1
    rw [← ho] at e2
    by_cases c1 : x.to = v
    · rw [if_pos c1] at e1
      by_cases c2 : x.fr = v
      · rw [if_pos c2] at e2
        repeat' ((conv => whnf); first | (refine ⟨fun h => ?_, fun h => ?_⟩ <;> try (exfalso; first | omega | exact absurd h (by decide) | exact h rfl | exact absurd (show true = false from h) (by decide) | exact absurd (show false = true from h) (by decide))) | (refine ⟨by omega, fun r hrr => ?_⟩; first | ((have hre : r = encO x := by (first | exact get_row hrr hx | fail)); subst hre)) | (refine ⟨(k + 1, _, _), ⟨?_, by (try dsimp only); omega⟩, [], ⟨⟨rfl, rfl⟩, ⟨⟨rfl, rfl⟩, ⟨⟨rfl, rfl⟩, ⟨⟨rfl, rfl⟩, ⟨⟨rfl, rfl⟩, ⟨⟨rfl, rfl⟩, trivial⟩⟩⟩⟩⟩⟩, trivial, rfl, rfl, rfl⟩; (try dsimp only); exact ⟨by omega, by omega, by omega⟩) | refine ⟨⟨by omega, by omega⟩, ?_⟩ | fail)
      · rw [if_neg c2, Int.add_zero] at e2
        repeat' ((conv => whnf); first | (refine ⟨fun h => ?_, fun h => ?_⟩ <;> try (exfalso; first | omega | exact absurd h (by decide) | exact h rfl | exact absurd (show true = false from h) (by decide) | exact absurd (show false = true from h) (by decide))) | (refine ⟨by omega, fun r hrr => ?_⟩; first | ((have hre : r = encO x := by (first | exact get_row hrr hx | fail)); subst hre)) | (refine ⟨(k + 1, _, _), ⟨?_, by (try dsimp only); omega⟩, [], ⟨⟨rfl, rfl⟩, ⟨⟨rfl, rfl⟩, ⟨⟨rfl, rfl⟩, ⟨⟨rfl, rfl⟩, ⟨⟨rfl, rfl⟩, ⟨⟨rfl, rfl⟩, trivial⟩⟩⟩⟩⟩⟩, trivial, rfl, rfl, rfl⟩; (try dsimp only); exact ⟨by omega, by omega, by omega⟩) | refine ⟨⟨by omega, by omega⟩, ?_⟩ | fail)
    · rw [if_neg c1, Int.add_zero] at e1
      by_cases c2 : x.fr = v
      · rw [if_pos c2] at e2
        repeat' ((conv => whnf); first | (refine ⟨fun h => ?_, fun h => ?_⟩ <;> try (exfalso; first | omega | exact absurd h (by decide) | exact h rfl | exact absurd (show true = false from h) (by decide) | exact absurd (show false = true from h) (by decide))) | (refine ⟨by omega, fun r hrr => ?_⟩; first | ((have hre : r = encO x := by (first | exact get_row hrr hx | fail)); subst hre)) | (refine ⟨(k + 1, _, _), ⟨?_, by (try dsimp only); omega⟩, [], ⟨⟨rfl, rfl⟩, ⟨⟨rfl, rfl⟩, ⟨⟨rfl, rfl⟩, ⟨⟨rfl, rfl⟩, ⟨⟨rfl, rfl⟩, ⟨⟨rfl, rfl⟩, trivial⟩⟩⟩⟩⟩⟩, trivial, rfl, rfl, rfl⟩; (try dsimp only); exact ⟨by omega, by omega, by omega⟩) | refine ⟨⟨by omega, by omega⟩, ?_⟩ | fail)
      · rw [if_neg c2, Int.add_zero] at e2
        repeat' ((conv => whnf); first | (refine ⟨fun h => ?_, fun h => ?_⟩ <;> try (exfalso; first | omega | exact absurd h (by decide) | exact h rfl | exact absurd (show true = false from h) (by decide) | exact absurd (show false = true from h) (by decide))) | (refine ⟨by omega, fun r hrr => ?_⟩; first | ((have hre : r = encO x := by (first | exact get_row hrr hx | fail)); subst hre)) | (refine ⟨(k + 1, _, _), ⟨?_, by (try dsimp only); omega⟩, [], ⟨⟨rfl, rfl⟩, ⟨⟨rfl, rfl⟩, ⟨⟨rfl, rfl⟩, ⟨⟨rfl, rfl⟩, ⟨⟨rfl, rfl⟩, ⟨⟨rfl, rfl⟩, trivial⟩⟩⟩⟩⟩⟩, trivial, rfl, rfl, rfl⟩; (try dsimp only); exact ⟨by omega, by omega, by omega⟩) | refine ⟨⟨by omega, by omega⟩, ?_⟩ | fail)
  · have hkn : k = l.length := by omega
    subst hkn
    rw [List.take_length] at hi ho
    repeat' ((conv => whnf); first | (refine ⟨fun h => ?_, fun h => ?_⟩ <;> try (exfalso; first | omega | exact absurd h (by decide) | exact h rfl | exact absurd (show true = false from h) (by decide) | exact absurd (show false = true from h) (by decide))) | fail | fail)
    all_goals (refine ⟨[], rfl, trivial, ?_⟩; show leR _ (.tup [I (toA l v), I (frA l v)]); rw [← hi, ← ho]; exact ⟨rfl, rfl, trivial⟩)
theorem turn_h : Holds Tryz.prog 70 turnS := holds_of mix Tryz.func70 turnLow (fun _ => rfl) turnV

/-! skiarea/ledger.Balance -/
def balanceIr : IFn := ⟨16, [.tmp 4],
  (.seq (.ops [
    ⟨(some 4), .mov, [.const (.int .i64 0)], none⟩] false)
  (.seq (.ops [
    ⟨(some 8), .mov, [.tmp 0], none⟩,
    ⟨(some 9), .mov, [.tmp 1], none⟩,
    ⟨(some 10), .call 70, [.tmp 8, .tmp 9], none⟩,
    ⟨(some 7), .mov, [.tmp 10], none⟩,
    ⟨(some 11), .extract 0, [.tmp 7], none⟩,
    ⟨(some 12), .extract 1, [.tmp 7], none⟩,
    ⟨(some 5), .mov, [.tmp 11], none⟩,
    ⟨(some 6), .mov, [.tmp 12], none⟩] false)
  (.seq (.ops [
    ⟨(some 13), .mov, [.tmp 5], none⟩,
    ⟨(some 14), .mov, [.tmp 6], none⟩,
    ⟨(some 15), .bin .sub .i64 false, [.tmp 13, .tmp 14], none⟩,
    ⟨(some 4), .mov, [.tmp 15], none⟩] false)
  .ret)))⟩
theorem balanceLow : lowF Tryz.prog {} Tryz.f32 = some balanceIr := by kernel_rfl
def balanceS : Spec := spec (List Pst × Int) (fun p => [L 4 (p.1.map encO), I p.2]) (fun p => amP p.1) (fun p => I (balA p.1 p.2))
theorem balanceV : fnV Tryz.prog balanceIr balanceS := by
  intro ⟨(l : List Pst), (v : Int)⟩ hp
  replace hp : amP l := hp
  have hlen := hp.1
  have b1 := toA_bnd hp v (Nat.le_refl l.length)
  have b2 := frA_bnd hp v (Nat.le_refl l.length)
  rw [List.take_length] at b1 b2
  show vc _ _ _ _ ⟨argEnv 0 [L 4 (l.map encO), I v], [], 0⟩
  repeat' ((conv => whnf); first | (refine ⟨fun h => ?_, fun h => ?_⟩ <;> try (exfalso; first | omega | exact absurd h (by decide) | exact h rfl | exact absurd (show true = false from h) (by decide) | exact absurd (show false = true from h) (by decide))) | (refine ⟨_, turn_h, (l, v), hp, leVs_of_eq rfl, .inl rfl, rfl, ?_⟩; show norm (.tup [I (toA l v), I (frA l v)]) _) | refine ⟨[], rfl, trivial, congrArg (CV.int .i64) ?_⟩ | refine ⟨⟨by omega, by omega⟩, ?_⟩ | fail)
  all_goals rfl
theorem balance_h : Holds Tryz.prog 32 balanceS := holds_of mix Tryz.func32 balanceLow (fun _ => rfl) balanceV

/-! skiarea/skiarealaw38.taken -/
def takenIr : IFn := ⟨31, [.tmp 4],
  (.seq (.ops [
    ⟨(some 4), .mov, [.const (.bool false)], none⟩] false)
  (.seq (.seq (.ops [
    ⟨(some 5), .mov, [.const (.int .i64 0)], none⟩] false)
  (.block 0
    (.loop
      (.seq (.seq (.ops [
        ⟨(some 6), .mov, [.tmp 5], none⟩,
        ⟨(some 7), .mov, [.tmp 0], none⟩,
        ⟨(some 8), .len, [.tmp 7], none⟩,
        ⟨(some 9), .cmp .lss, [.tmp 6, .tmp 8], none⟩] false)
      (.cond (.tmp 9)
        .skip
        (.exit 0)))
      (.seq (.block 1
        (.seq (.ops [
          ⟨(some 12), .mov, [.tmp 0], none⟩,
          ⟨(some 13), .mov, [.tmp 5], none⟩,
          ⟨(some 14), .idx 4, [.tmp 12, .tmp 13], none⟩,
          ⟨(some 15), .faddr 0, [.tmp 14], none⟩,
          ⟨(some 16), .load 1 false, [.tmp 15], none⟩,
          ⟨(some 17), .mov, [.tmp 1], none⟩,
          ⟨(some 18), .bin .mul .i64 true, [.tmp 17, .const (.int .i64 100)], none⟩,
          ⟨(some 19), .cmp .gtr, [.tmp 16, .tmp 18], none⟩,
          ⟨(some 20), .mov, [.tmp 19], none⟩,
          ⟨(some 21), .mov, [.tmp 0], (some (20, true))⟩,
          ⟨(some 22), .mov, [.tmp 5], (some (20, true))⟩,
          ⟨(some 23), .idx 4, [.tmp 21, .tmp 22], (some (20, true))⟩,
          ⟨(some 24), .faddr 0, [.tmp 23], (some (20, true))⟩,
          ⟨(some 25), .load 1 false, [.tmp 24], (some (20, true))⟩,
          ⟨(some 26), .mov, [.tmp 1], (some (20, true))⟩,
          ⟨(some 27), .bin .mul .i64 true, [.tmp 26, .const (.int .i64 100)], (some (20, true))⟩,
          ⟨(some 28), .bin .add .i64 true, [.tmp 27, .const (.int .i64 8)], (some (20, true))⟩,
          ⟨(some 29), .cmp .leq, [.tmp 25, .tmp 28], (some (20, true))⟩,
          ⟨(some 30), .pick, [.tmp 20, .tmp 29, .const (.bool false)], none⟩] false)
        (.cond (.tmp 30)
          (.seq (.ops [
            ⟨(some 4), .mov, [.const (.bool true)], none⟩] false)
          .ret)
          .skip)))
      (.ops [
        ⟨(some 10), .mov, [.tmp 5], none⟩,
        ⟨(some 11), .bin .add .i64 false, [.tmp 10, .const (.int .i64 1)], none⟩,
        ⟨(some 5), .mov, [.tmp 11], none⟩] false))))))
  (.seq (.ops [
    ⟨(some 4), .mov, [.const (.bool false)], none⟩] false)
  .ret)))⟩
theorem takenLow : lowF Tryz.prog { wraps := [18, 27, 28] } Tryz.f28 = some takenIr := by kernel_rfl
def takenS : Spec := spec (List Pst × Int) (fun p => [L 4 (p.1.map encO), I p.2]) (fun p => p.1.length ≤ 1000000) (fun p => B (takenB p.1 p.2))
theorem takenV : fnV Tryz.prog takenIr takenS := by
  intro ⟨(l : List Pst), (n : Int)⟩ hx
  replace hx : l.length ≤ 1000000 := hx
  have hl : (l.map encO).length = l.length := List.length_map ..
  show vc _ _ _ _ ⟨argEnv 0 [L 4 (l.map encO), I n], [], 0⟩
  conv => whnf
  refine ⟨Nat, fun xq => ⟨[(0, L 4 (l.map encO)), (1, I n), (5, I xq)], [], 0⟩, fun xq => xq ≤ l.length ∧ takenB (l.take xq) n = false, fun xq => l.length - xq, ⟨0, ?_, [], ⟨⟨rfl, rfl⟩, ⟨⟨rfl, rfl⟩, ⟨⟨rfl, rfl⟩, trivial⟩⟩⟩, trivial, rfl, rfl, rfl⟩, ?_⟩
  · (try dsimp only); exact ⟨Nat.zero_le _, rfl⟩
  rintro k hk
  obtain ⟨hk, h0⟩ : k ≤ l.length ∧ takenB (l.take k) n = false := hk
  (try dsimp only)
  by_cases hkl : k < l.length
  · obtain ⟨x, hx⟩ := getElem_some hkl
    have hst : takenB (l.take (k + 1)) n = (takenB (l.take k) n || (decide (IntKind.wrap .i64 (n * 100) < x.ref) && decide (x.ref ≤ IntKind.wrap .i64 (IntKind.wrap .i64 (n * 100) + 8)))) := any_step hx
    rw [h0, Bool.false_or] at hst
    have hin : (decide (IntKind.wrap .i64 (n * 100) < x.ref) && decide (x.ref ≤ IntKind.wrap .i64 (IntKind.wrap .i64 (n * 100) + 8))) = true → takenB l n = true := fun h => List.any_eq_true.2 ⟨x, List.mem_of_getElem? hx, h⟩
    by_cases c1 : IntKind.wrap .i64 (n * 100) < x.ref
    · by_cases c2 : x.ref ≤ IntKind.wrap .i64 (IntKind.wrap .i64 (n * 100) + 8)
      · repeat' ((conv => whnf); first | (refine ⟨fun h => ?_, fun h => ?_⟩ <;> try (exfalso; first | omega | exact absurd h (by decide) | exact h rfl | exact absurd c1 h | exact absurd c2 h | exact absurd h c1 | exact absurd h c2 | exact absurd (show true = false from h) (by decide) | exact absurd (show false = true from h) (by decide))) | (refine ⟨by omega, fun r hrr => ?_⟩; first | ((have hre : r = encO x := by (first | exact get_row hrr hx | fail)); subst hre)) | fail | fail)
        all_goals (refine ⟨[], rfl, trivial, congrArg CV.bool ?_⟩; exact (hin (by rw [decide_eq_true c1, decide_eq_true c2]; rfl)).symm)
      · repeat' ((conv => whnf); first | (refine ⟨fun h => ?_, fun h => ?_⟩ <;> try (exfalso; first | omega | exact absurd h (by decide) | exact h rfl | exact absurd c1 h | exact absurd c2 h | exact absurd h c1 | exact absurd h c2 | exact absurd (show true = false from h) (by decide) | exact absurd (show false = true from h) (by decide))) | (refine ⟨by omega, fun r hrr => ?_⟩; first | ((have hre : r = encO x := by (first | exact get_row hrr hx | fail)); subst hre)) | (refine ⟨k + 1, ⟨?_, by (try dsimp only); omega⟩, [], ⟨⟨rfl, rfl⟩, ⟨⟨rfl, rfl⟩, ⟨⟨rfl, rfl⟩, trivial⟩⟩⟩, trivial, rfl, rfl, rfl⟩; (try dsimp only); exact ⟨by omega, hst.trans (by rw [decide_eq_false c2, Bool.and_false])⟩) | refine ⟨⟨by omega, by omega⟩, ?_⟩ | fail)
    · repeat' ((conv => whnf); first | (refine ⟨fun h => ?_, fun h => ?_⟩ <;> try (exfalso; first | omega | exact absurd h (by decide) | exact h rfl | exact absurd c1 h | exact absurd c2 h | exact absurd h c1 | exact absurd h c2 | exact absurd (show true = false from h) (by decide) | exact absurd (show false = true from h) (by decide))) | (refine ⟨by omega, fun r hrr => ?_⟩; first | ((have hre : r = encO x := by (first | exact get_row hrr hx | fail)); subst hre)) | (refine ⟨k + 1, ⟨?_, by (try dsimp only); omega⟩, [], ⟨⟨rfl, rfl⟩, ⟨⟨rfl, rfl⟩, ⟨⟨rfl, rfl⟩, trivial⟩⟩⟩, trivial, rfl, rfl, rfl⟩; (try dsimp only); exact ⟨by omega, hst.trans (by rw [decide_eq_false c1, Bool.false_and])⟩) | refine ⟨⟨by omega, by omega⟩, ?_⟩ | fail)
  · rw [take_end hkl] at h0
    repeat' ((conv => whnf); first | (refine ⟨fun h => ?_, fun h => ?_⟩ <;> try (exfalso; first | omega | exact absurd h (by decide) | exact h rfl | exact absurd (show true = false from h) (by decide) | exact absurd (show false = true from h) (by decide))) | fail | fail)
    all_goals (refine ⟨[], rfl, trivial, congrArg CV.bool ?_⟩; exact (h0).symm)
theorem taken_h : Holds Tryz.prog 28 takenS := holds_of mix Tryz.func28 takenLow (fun _ => rfl) takenV

end Go.Proofs.YtpkhannkbafimaaGreat
