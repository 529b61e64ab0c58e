/- The abstract walk is sound: the quiet operations, one theorem. No program in sight. -/
import Derived.Test.YtfghmpfiemmbgaaB0
namespace Go.Proofs.Ytfghmpfiemmbgaa
open Go.RowKit

section
variable {P : Program} {F : Nat → Prop} {w0 w : World} {ι : Iota} {H : List (Nat × Ob)} {nx : Nat}

theorem sliceB_spec {n : Nat} {lo hi : Bool} {r : List SV} {l h : Int} (hb : sliceB n lo hi r = some (l, h)) :
    (lo = false ∧ hi = false ∧ r = [] ∧ l = 0 ∧ h = n) ∨ (lo = true ∧ hi = false ∧ ∃ k, r = [.c (.int k l)] ∧ h = n) ∨ (lo = false ∧ hi = true ∧ ∃ k, r = [.c (.int k h)] ∧ l = 0) ∨ (lo = true ∧ hi = true ∧ ∃ k k', r = [.c (.int k l), .c (.int k' h)]) := by
  unfold sliceB at hb
  split at hb <;> cases hb
  · exact .inl ⟨rfl, rfl, rfl, rfl, rfl⟩
  · exact .inr (.inl ⟨rfl, rfl, _, rfl, rfl⟩)
  · exact .inr (.inr (.inl ⟨rfl, rfl, _, rfl, rfl⟩))
  · exact .inr (.inr (.inr ⟨rfl, rfl, _, _, rfl⟩))

set_option maxHeartbeats 1000000 in
theorem pop_ok {q : Opts} {d : Option Nat} {op : Op} {io : IOp} {args : List Operand} {a : Act} {o : Oper} {xs : List SV} {v : SV} (hm : Mem F w0 ι H nx w) (hl : lowOp P q d op = some (io, args)) (ho : o.op = op) (he : io.eff = false)
    (hx : RepList w (owned F ι H) ι H nx xs (args.map a.eval)) (hp : pop P io H xs (· = v)) :
    Gives P o a w (fun u w' => Below w.heap.size w w' ∧ Rep w' (owned F ι H) ι H nx v u) := by
  have same : ∀ u, (execOp a.eval o).run P w = .ok (.value u) w → Rep w (owned F ι H) ι H nx v u → Gives P o a w (fun u w' => Below w.heap.size w w' ∧ Rep w' (owned F ι H) ι H nx v u) := fun u h hr => gives_value h ⟨Below.refl _ _, hr⟩
  unfold lowOp at hl
  cases op <;> (try dsimp only at hl)
  case move x =>
    cases hl
    unfold pop at hp; dsimp only at hp
    split at hp
    · subst hp
      obtain ⟨u, e, hu⟩ := replist_one hx
      simp at e; subst e
      exact same _ (by simp [execOp, ho]) hu
    · exact hp.elim
  case assign x =>
    split at hl
    · split at hl <;> cases hl
      cases he
    · cases hl
      unfold pop at hp; dsimp only at hp
      split at hp
      · subst hp
        obtain ⟨u, e, hu⟩ := replist_one hx
        simp at e; subst e
        exact same _ (by simp [execOp, ho]) hu
      · exact hp.elim
  case pick c x y =>
    cases hl
    unfold pop at hp; dsimp only at hp
    split at hp
    · subst hp
      obtain ⟨u1, u2, u3, e, h1, h2, h3⟩ := replist_three hx
      simp at e; obtain ⟨rfl, rfl, rfl⟩ := e
      exact same _ (by simp [execOp, ho, rep_bool h1, asBool]) h2
    · subst hp
      obtain ⟨u1, u2, u3, e, h1, h2, h3⟩ := replist_three hx
      simp at e; obtain ⟨rfl, rfl, rfl⟩ := e
      exact same _ (by simp [execOp, ho, rep_bool h1, asBool]) h3
    · exact hp.elim
  case load t x =>
    split at hl
    · rename_i k u hk hu
      split at hl
      · rename_i hk1
        cases hl
        exact load_ok hm ho hu hk hk1 hx hp
      · cases hl
    · cases hl
  case nilCheck x =>
    cases hl
    unfold pop at hp; dsimp only at hp
    split at hp
    · subst hp
      obtain ⟨u, e, hu⟩ := replist_one hx
      simp at e; subst e
      refine same _ ?_ hu
      generalize hg : a.eval x = g at *
      cases hu with | rp _ b off xs hl hb ho' hcell hr => simp [execOp, ho, hg]
    · split at hp
      · rename_i hh
        subst hp
        obtain ⟨u, e, hu⟩ := replist_one hx
        simp at e; subst e
        obtain ⟨b, _, _, hv, _⟩ := box_cells hm hu hh
        exact same _ (by simp [execOp, ho, hv]) hu
      · exact hp.elim
    · split at hp
      · rename_i hh
        subst hp
        obtain ⟨u, e, hu⟩ := replist_one hx
        simp at e; subst e
        refine same _ ?_ hu
        generalize hg : a.eval x = g at *
        cases hu with
        | ep _ _ _ _ _ hx1 h1 h =>
          obtain ⟨b, c, _, rfl⟩ := h _ _ _ hh
          simp [execOp, ho, hg]
      · exact hp.elim
    · subst hp
      obtain ⟨u, e, hu⟩ := replist_one hx
      simp at e; subst e
      refine same _ ?_ hu
      generalize hg : a.eval x = g at *
      cases hu with | fn _ _ vs hl hr => simp [execOp, ho, hg]
    · exact hp.elim
  case binOp bo t x y yt =>
    unfold lowBinN at hl
    split at hl
    · split at hl <;> first | (cases hl; done) | (cases hl; cases he; done)
    unfold lowBin at hl
    split at hl
    · rename_i k hu
      split at hl
      · rename_i hcm
        cases hl
        unfold pop at hp; dsimp only at hp
        split at hp
        · rename_i k1 n1 k2 n2
          split at hp
          · rename_i hk
            obtain ⟨u1, u2, e, h1, h2⟩ := replist_two hx
            simp at e; obtain ⟨rfl, rfl⟩ := e
            have := ikB_eq hk
            subst this
            obtain ⟨c, rfl, hrun⟩ := cmpV_run (P := P) (t := t) (k := k1) hp w
            refine same (.bool c) ?_ (rep_mk_bool _)
            simp only [execOp, ho, rep_int h1, rep_int h2, Sem.run_bind, eqGuard_int, Result.andThen_ok, hrun, Sem.run_pure]
          · exact hp.elim
        · exact hp.elim
      · rename_i hcm
        cases hl
        unfold pop at hp; dsimp only at hp
        split at hp
        · split at hp
          · rename_i hk2 hk1
            obtain ⟨u1, u2, e, h1, h2⟩ := replist_two hx
            simp at e; obtain ⟨rfl, rfl⟩ := e
            have := ikB_eq hk1
            subst this
            obtain ⟨n, rfl, hrun⟩ := binV_run (P := P) (t := t) (by simpa using hcm) hk2 hp w
            refine same (.int _ n) ?_ (rep_mk_int _ _)
            simp only [execOp, ho, rep_int h1, rep_int h2, Sem.run_bind, eqGuard_int, Result.andThen_ok, hrun, Sem.run_pure]
          · exact hp.elim
        · exact hp.elim
    · rename_i hu
      have hbo : ∀ neq, (bo = if neq then .neq else .eql) → (io, args) = (.eqb neq, [x, y]) → Gives P o a w (fun u w' => Below w.heap.size w w' ∧ Rep w' (owned F ι H) ι H nx v u) := by
        intro neq hb e0
        cases e0
        unfold pop at hp; dsimp only at hp
        split at hp
        · obtain ⟨u1, u2, e, h1, h2⟩ := replist_two hx
          simp at e; obtain ⟨rfl, rfl⟩ := e
          cases neq <;> dsimp only at hp
          · obtain ⟨c, rfl, hc⟩ := spl_bool hp
            refine same (.bool c) ?_ (rep_mk_bool _)
            simp at hb
            subst hb
            simp only [execOp, ho, rep_bool h1, rep_bool h2, Sem.run_bind, eqGuard_bool, Result.andThen_ok, binOp, Op.equal, Op.maxDepth, run_equalIn_bool' w 9999 t _ _ hu, Sem.run_pure]
            congr 3
            rw [Bool.eq_iff_iff, hc]; simp
          · obtain ⟨c, rfl, hc⟩ := spl_bool hp
            refine same (.bool c) ?_ (rep_mk_bool _)
            simp at hb
            subst hb
            simp only [execOp, ho, rep_bool h1, rep_bool h2, Sem.run_bind, eqGuard_bool, Result.andThen_ok, binOp, Op.equal, Op.maxDepth, run_equalIn_bool' w 9999 t _ _ hu, Sem.run_pure]
            congr 3
            rw [Bool.eq_iff_iff, hc]; simp
        · exact hp.elim
      split at hl <;> first | (cases hl; done) | skip
      · exact hbo false rfl (Option.some.inj hl).symm
      · exact hbo true rfl (Option.some.inj hl).symm
    · rename_i fs hu
      split at hl
      · rename_i ks hks
        split at hl
        · cases hl
        · rename_i hg
          have hbo : ∀ neq, (bo = if neq then .neq else .eql) → (io, args) = (.eqa ks neq, [x, y]) → Gives P o a w (fun u w' => Below w.heap.size w w' ∧ Rep w' (owned F ι H) ι H nx v u) := by
            intro neq hb e0
            cases e0
            unfold pop at hp; dsimp only at hp
            split at hp
            · split at hp
              · rename_i xs' ys' p hp'
                obtain ⟨u1, u2, e, h1, h2⟩ := replist_two hx
                simp at e
                obtain ⟨e1, e2⟩ := e
                generalize hgx : a.eval x = gx at *
                generalize hgy : a.eval y = gy at *
                subst e1; subst e2
                cases h1 with
                | agg _ us1 hl1 hc1 hr1 =>
                  cases h2 with
                  | agg _ us2 hl2 hc2 hr2 =>
                    obtain ⟨b, hb1, hb2⟩ := eqCells_b hp' ⟨hl1, hr1⟩ ⟨hl2, hr2⟩
                    have hrun := run_eqT (P := P) 8 t ks hks 10000 us1 us2 b (.agg us1.toArray) (.agg us2.toArray) w (by omega) hb1 (.inl ⟨by rw [hu]; rfl, rfl, rfl⟩)
                    have hgd : P.eqGuardType P.depth t = false := by simpa using hg
                    cases neq <;> dsimp only at hp
                    · obtain ⟨c, rfl, hc⟩ := spl_bool hp
                      refine same (.bool c) ?_ (rep_mk_bool _)
                      simp at hb
                      subst hb
                      simp only [execOp, ho, hgx, hgy, Sem.run_bind, run_eqGuard_agg w _ _ _ _ _ _ hgd, Result.andThen_ok, run_eql_struct, hrun, Sem.run_pure]
                      congr 3
                      rw [Bool.eq_iff_iff, hc, hb2]
                    · obtain ⟨c, rfl, hc⟩ := spl_bool hp
                      refine same (.bool c) ?_ (rep_mk_bool _)
                      simp at hb
                      subst hb
                      simp only [execOp, ho, hgx, hgy, Sem.run_bind, run_eqGuard_agg w _ _ _ _ _ _ hgd, Result.andThen_ok, run_neq_struct, hrun, Sem.run_pure]
                      congr 3
                      rw [Bool.eq_iff_iff, hc, ← hb2]; cases b <;> simp
              · exact hp.elim
            · exact hp.elim
          split at hl <;> first | (cases hl; done) | skip
          · exact hbo false rfl (Option.some.inj hl).symm
          · exact hbo true rfl (Option.some.inj hl).symm
      · cases hl
    · cases hl
  case unOp uo t x =>
    split at hl
    · cases hl
      unfold pop at hp; dsimp only at hp
      split at hp
      · subst hp
        obtain ⟨u, e, hu⟩ := replist_one hx
        simp at e; subst e
        exact same _ (by simp [execOp, ho, rep_bool hu, Op.unary]) (rep_mk_bool _)
      · exact hp.elim
    · cases hl
      unfold pop at hp; dsimp only at hp
      split at hp
      · split at hp
        · rename_i hk
          obtain ⟨hin, rfl⟩ := hp
          obtain ⟨u, e, hu⟩ := replist_one hx
          simp at e; subst e
          have := ikB_eq hk
          subst this
          refine same _ ?_ (rep_mk_int _ _)
          simp only [execOp, ho, rep_int hu, Op.unary, Op.intArith, Sem.run_bind, Sem.run_pure, Result.andThen_ok, inR_wrap hin]
        · exact hp.elim
      · exact hp.elim
    · cases hl
  case convert st dt x =>
    split at hl
    · rename_i us k hst hk
      cases hl
      unfold pop at hp; dsimp only at hp
      split at hp
      · obtain ⟨hin, rfl⟩ := hp
        obtain ⟨u, e, hu⟩ := replist_one hx
        simp at e; subst e
        refine same _ ?_ (rep_mk_int _ _)
        simp only [execOp, ho, rep_int hu, convert, Sem.run_bind, run_underlying hst, run_underlying hk, Result.andThen_ok, Conv.intToInt, inR_wrap hin, Sem.run_pure]
      · exact hp.elim
    · cases hl
  case makeFunc fn first caps =>
    cases fn <;> (try dsimp only at hl) <;> first | (cases hl; done) | skip
    rename_i f
    split at hl
    · rename_i hz
      cases hl
      unfold pop at hp; dsimp only at hp
      subst hp
      have : first = #[] := Array.eq_empty_of_size_eq_zero hz
      subst this
      refine same (.func (.func f) #[] (caps.toList.map a.eval).toArray) ?_ (.fn f xs _ hx.1 hx.2)
      obtain ⟨caps⟩ := caps
      simp [execOp, ho, Instr.makeFunc]
    · cases hl
  case slice t x lo hi mx =>
    cases mx <;> (try dsimp only at hl) <;> first | (cases hl; done) | skip
    split at hl
    · rename_i e hu
      split at hl
      · rename_i k hk
        split at hl
        · cases hl; cases he
        · cases hl
          unfold pop at hp; dsimp only at hp
          split at hp
          · split at hp
            · rename_i k' es r _ l h hb
              obtain ⟨hbq, ⟨h0, h1, h2⟩, rfl⟩ := chk_iff.1 hp
              rw [Nat.beq_eq] at hbq
              subst hbq
              obtain ⟨u, us, e1, hu1, hus⟩ := replist_cons hx
              simp only [List.cons_append, List.map_cons, List.cons.injEq] at e1
              obtain ⟨rfl, e1⟩ := e1
              cases hu1 with
              | c _ _ hrc =>
                have hlohi : (match lo.map a.eval with | some v => ∃ kd, v = .int kd l | none => l = 0) ∧ (match hi.map a.eval with | some v => ∃ kd, v = .int kd h | none => h = es.length) := by
                  rcases sliceB_spec hb with ⟨q1, q2, rfl, rfl, rfl⟩ | ⟨q1, q2, kd, rfl, rfl⟩ | ⟨q1, q2, kd, rfl, rfl⟩ | ⟨q1, q2, kd, kd', rfl⟩
                  · cases lo <;> cases hi <;> first | (cases q1; done) | (cases q2; done) | skip
                    exact ⟨rfl, rfl⟩
                  · cases lo <;> cases hi <;> first | (cases q1; done) | (cases q2; done) | skip
                    obtain ⟨u, e2, hu2⟩ := replist_one hus
                    subst e2; simp at e1; subst e1
                    exact ⟨⟨_, rep_int hu2⟩, rfl⟩
                  · cases lo <;> cases hi <;> first | (cases q1; done) | (cases q2; done) | skip
                    obtain ⟨u, e2, hu2⟩ := replist_one hus
                    subst e2; simp at e1; subst e1
                    exact ⟨rfl, _, rep_int hu2⟩
                  · cases lo <;> cases hi <;> first | (cases q1; done) | (cases q2; done) | skip
                    obtain ⟨u, u', e2, hu2, hu3⟩ := replist_two hus
                    subst e2; simp at e1; obtain ⟨rfl, rfl⟩ := e1
                    exact ⟨⟨_, rep_int hu2⟩, _, rep_int hu3⟩
                obtain ⟨y, hrun, hy⟩ := slice_run (P := P) hu hk hrc hlohi.1 hlohi.2 h0 h1 h2
                exact same y (by simp [execOp, ho, hrun]) (.c _ _ hy)
            · exact hp.elim
          · exact hp.elim
      · cases hl
    · cases hl
  case fieldAddr t x f =>
    split at hl
    · rename_i fs hu
      split at hl
      · rename_i fl hf
        split at hl
        · rename_i n hsz
          cases hl
          have hfp : ∀ b off, (Instr.fieldAt t (.pointer (some ⟨b, off, none⟩)) f).run P w = .ok (.pointer (some ⟨b, off + fl.offset, none⟩)) w := by
            intro b off
            simp only [Instr.fieldAt, Sem.run_bind, run_underlying hu, Result.andThen_ok, hf, Instr.sureAddr, Sem.run_pure, fieldPlace, run_sizeT hsz, Nat.succ_ne_zero, if_false, addr_add]
          unfold pop at hp; dsimp only at hp
          split at hp
          · obtain ⟨hle, rfl⟩ := chk_iff.1 hp
            rw [Nat.ble_eq] at hle
            obtain ⟨u, e, hu'⟩ := replist_one hx
            simp at e
            cases hu' with
            | rp _ b off xs hl hb ho' hcell hr =>
              refine same (.pointer (some ⟨b, off + fl.offset, none⟩)) (by simp [execOp, ho, e, hfp]) (.rp _ b _ (xs.drop fl.offset) (by simp [hl]) hb ho' (fun j u hj => ?_) fun i c v hc hv => ?_)
              · rw [List.getElem?_drop] at hj
                rw [Nat.add_assoc]; exact hcell _ u hj
              · rw [List.getElem?_drop] at hc hv
                exact hr _ c v hc hv
          · split at hp
            · rename_i hh
              subst hp
              obtain ⟨u, e, hu'⟩ := replist_one hx
              simp at e; subst e
              obtain ⟨b, cur, _, hv, hcur, _, _, ⟨c, hι⟩, _⟩ := box_cells hm hu' hh
              have hid := (hm.heap _ _ hh).1
              refine same (.pointer (some ⟨b, _, none⟩)) (by simp only [execOp, ho, hv, Sem.run_bind, hfp, Result.andThen_ok, Sem.run_pure]) (.bp _ _ _ hid rfl fun cs' h' => ⟨b, c, hι, rfl⟩)
            · exact hp.elim
          · rename_i id k i j
            split at hp
            · rename_i hh
              subst hp
              obtain ⟨u, e, hu'⟩ := replist_one hx
              simp at e
              have hid := (hm.heap _ _ hh).1
              cases hu' with
              | ep _ _ _ _ _ hx1 h1 h =>
                obtain ⟨b, c, hι, hv⟩ := h _ _ _ hh
                refine same (.pointer (some ⟨b, i * k + j + fl.offset, none⟩)) (by simp only [execOp, ho, e, hv, Sem.run_bind, hfp, Result.andThen_ok, Sem.run_pure]) (.ep _ _ _ _ _ hid rfl fun e' k' es' h' => ⟨b, c, hι, by rw [Nat.add_assoc]⟩)
            · exact hp.elim
          · exact hp.elim
        · cases hl
      · cases hl
    · cases hl
  case field t x f =>
    split at hl
    · rename_i fs hu
      split at hl
      · rename_i fl hf
        split at hl
        · rename_i k u hk hfu
          split at hl
          · rename_i hk1
            cases hl
            unfold pop at hp; dsimp only at hp
            split at hp
            · obtain ⟨hle, hfc⟩ := chk_iff.1 hp
              rw [Nat.ble_eq] at hle
              obtain ⟨y, e, hy⟩ := replist_one hx
              simp at e
              cases hy with
              | agg cs vs hl hc hr =>
                obtain ⟨z, hrun, hz⟩ := run_part (P := P) hfu hk hk1 (cs := vs) (off := fl.offset) (by omega) w
                refine same z ?_ (fromCells_rep hfc (replist_sub ⟨hl, hr⟩ fl.offset k) (fun s hs => hc s (List.mem_of_mem_drop (List.mem_of_mem_take hs))) hz)
                simp [execOp, ho, e, Instr.field, run_underlying hu, hf, asAgg, hrun]
            · exact hp.elim
          · cases hl
        · cases hl
      · cases hl
    · cases hl
  case indexAddr t x i =>
    split at hl
    · rename_i e hu
      split at hl
      · rename_i k hk
        cases hl
        have hidx : ∀ (b off n c : Nat) (kd : IntKind) (i' : Int), 0 ≤ i' → i' < n → (Instr.indexAt t (.slice (some ⟨b, off, none⟩) n c) (.int kd i')).run P w = .ok (.pointer (some ⟨b, off + i'.toNat * k, none⟩)) w := by
          intro b off n c kd i' h0 h1
          simp only [Instr.indexAt, asIntOf, Sem.run_bind, Sem.run_pure, Result.andThen_ok, run_underlying hu, run_sizeT hk, addr_add, Sem.run_ite, if_pos (And.intro h0 h1)]
        unfold pop at hp; dsimp only at hp
        split at hp
        · rename_i k' es kd i'
          obtain ⟨hbq, ⟨h0, h1⟩, hr⟩ := chk_iff.1 hp
          rw [Nat.beq_eq] at hbq
          subst hbq
          obtain ⟨u1, u2, e1, hu1, hu2⟩ := replist_two hx
          simp at e1
          obtain ⟨e1, e2⟩ := e1
          have hi := List.getElem?_eq_getElem (l := es) (i := i'.toNat) (by omega)
          have hv := hr _ hi
          subst hv
          rw [rep_int hu2] at e2
          cases hu1 with
          | c _ _ hrc =>
            cases hrc with
            | sl _ _ A c us hkk hc1 hc2 hl hA hrr =>
              obtain ⟨b, off, rfl, hb, ho', hcell⟩ := hA (by omega)
              have hlt : i'.toNat < es.length := by omega
              have hrk : es[i'.toNat].length = k' := hkk _ (List.getElem_mem hlt)
              have hmul : i'.toNat * k' + k' ≤ es.length * k' := by rw [← Nat.succ_mul]; exact Nat.mul_le_mul_right k' hlt
              refine same (.pointer (some ⟨b, off + i'.toNat * k', none⟩)) (by simp [execOp, ho, e1, e2, hidx b off es.length c kd i' h0 h1]) (.rp _ b _ ((us.drop (i'.toNat * k')).take k') (by simp [hrk]; omega) hb ho' (fun j u hj => ?_) fun j cc v hc hv => ?_)
              · obtain ⟨h2, _⟩ := take_get _ _ _ _ hj
                rw [List.getElem?_drop] at h2
                rw [Nat.add_assoc]; exact hcell _ u h2
              · obtain ⟨h2, h3⟩ := take_get _ _ _ _ hv
                rw [List.getElem?_drop] at h2
                exact hrr _ cc v (by rw [flatten_get hkk hi h3]; exact hc) h2
        · rename_i id kd i'
          split at hp
          · rename_i e' k' es hh
            obtain ⟨hbq, ⟨h0, h1⟩, rfl⟩ := chk_iff.1 hp
            rw [Nat.beq_eq] at hbq
            subst hbq
            obtain ⟨u1, u2, e1, hu1, hu2⟩ := replist_two hx
            simp at e1
            obtain ⟨e1, e2⟩ := e1
            rw [rep_int hu2] at e2
            have hlt : i'.toNat < es.length := by omega
            obtain ⟨b, c, us, hι, hown, _⟩ := row_cells hm hh (List.getElem?_eq_getElem hlt)
            cases hu1 with
            | osl _ _ hx1 h2 h =>
              have hv := h _ _ _ hh
              rw [hι] at hv
              refine same (.pointer (some ⟨b, 0 + i'.toNat * k', none⟩)) (by simp [execOp, ho, e1, e2, hv, ownVal, hidx b 0 es.length c kd i' h0 h1]) (.ep _ _ _ _ _ hx1 rfl fun e'' k'' es'' h' => ⟨b, c, hι, by simp⟩)
          · exact hp.elim
        · exact hp.elim
      · cases hl
    · cases hl
  case extract x i =>
    cases hl
    unfold pop at hp; dsimp only at hp
    split at hp
    · split at hp
      · rename_i s hs
        obtain ⟨u, e, hu⟩ := replist_one hx
        simp at e
        cases hu with
        | tup ss us hl hr =>
          have hi : i < us.length := by rw [← hl]; exact (List.getElem?_eq_some_iff.1 hs).1
          have hui := List.getElem?_eq_getElem hi
          exact same us[i] (by simp [execOp, ho, e, Instr.extract, hi]) (norm_rep hp (hr i s _ hs hui))
      · exact hp.elim
    · exact hp.elim
  case call c =>
    unfold lowCall at hl
    split at hl
    · rename_i b hcal
      unfold lowBuiltin at hl
      split at hl
      · split at hl
        · rename_i x t ha ht
          split at hl
          · rename_i e hu
            cases hl
            have hrun : ∀ (A : Option Addr) (n cp : Nat), a.eval x = .slice A n cp → (execOp a.eval o).run P w = .ok (.value (.int .i64 n)) w := by
              intro A n cp he'
              obtain ⟨cl, args, ts⟩ := c
              obtain ⟨args⟩ := args
              obtain ⟨ts⟩ := ts
              simp at ha ht hcal
              subst ha; subst ht; subst hcal
              simp [execOp, ho, resolve, invoke, builtin, Builtin.len_, run_underlying hu, he', goInt]
            unfold pop at hp; dsimp only at hp
            split at hp
            · subst hp
              obtain ⟨u, e, hu'⟩ := replist_one hx
              simp at e
              rw [rep_nil hu'] at e
              exact same _ (hrun _ _ _ e) (rep_mk_int _ _)
            · subst hp
              obtain ⟨u, e, hu'⟩ := replist_one hx
              simp at e
              cases hu' with
              | c _ _ hrc => cases hrc with
                | sl _ _ A c' us hkk hc1 hc2 hl hA hrr => exact same _ (hrun _ _ _ e) (rep_mk_int _ _)
            · split at hp
              · rename_i hh
                subst hp
                obtain ⟨u, e, hu'⟩ := replist_one hx
                simp at e
                cases hu' with
                | osl _ _ hx1 h2 h =>
                  have hv := h _ _ _ hh
                  have hob := (hm.heap _ _ hh).2
                  obtain ⟨us, hown, _⟩ := hob
                  rw [hv] at e
                  cases hι : ι _ with
                  | none =>
                    rw [hι] at e hown
                    rcases hown.2 with ⟨_, h0⟩ | ⟨g, cap, cur, hv', _⟩
                    · refine same _ (hrun _ _ _ e) ?_
                      rw [h0]; exact rep_mk_int _ _
                    · simp [ownVal] at hv'
                  | some p =>
                    rw [hι] at e
                    exact same _ (hrun _ _ _ e) (rep_mk_int _ _)
              · exact hp.elim
            · exact hp.elim
          · cases hl
        · cases hl
      · split at hl
        · rename_i x y ha
          cases hl
          unfold pop at hp; dsimp only at hp
          split at hp
          · subst hp
            obtain ⟨u1, u2, e1, hu1, hu2⟩ := replist_two hx
            simp at e1
            obtain ⟨e1, e2⟩ := e1
            rw [rep_int hu1] at e1
            rw [rep_int hu2] at e2
            refine same _ ?_ (rep_mk_int _ _)
            obtain ⟨cl, args, ts⟩ := c
            obtain ⟨args⟩ := args
            simp at ha hcal
            subst ha; subst hcal
            simp [execOp, ho, resolve, invoke, builtin, Builtin.min_, Builtin.min2, e1, e2]
            split <;> omega
          · exact hp.elim
        · cases hl
      · split at hl
        · rename_i x y ha
          cases hl
          unfold pop at hp; dsimp only at hp
          split at hp
          · subst hp
            obtain ⟨u1, u2, e1, hu1, hu2⟩ := replist_two hx
            simp at e1
            obtain ⟨e1, e2⟩ := e1
            rw [rep_int hu1] at e1
            rw [rep_int hu2] at e2
            refine same _ ?_ (rep_mk_int _ _)
            obtain ⟨cl, args, ts⟩ := c
            obtain ⟨args⟩ := args
            simp at ha hcal
            subst ha; subst hcal
            simp [execOp, ho, resolve, invoke, builtin, Builtin.max_, Builtin.max2, e1, e2]
            split <;> omega
          · exact hp.elim
        · cases hl
      · split at hl
        · split at hl
          · split at hl
            · split at hl
              · split at hl
                · split at hl <;> cases hl
                  cases he
                · cases hl
              · cases hl
            · cases hl
          · cases hl
        · cases hl
      · cases hl
    · rename_i f hcal
      split at hl
      · rename_i hcb
        split at hl
        · cases hl; cases he
        split at hl
        · cases hl; cases he
        · cases hl
          unfold pop at hp; dsimp only at hp
          refine gives_call (f := f) (args := (c.args.toList.map a.eval).toArray) ?_ (callV_ok hm hx hp)
          obtain ⟨cl, args, ts⟩ := c
          obtain ⟨args⟩ := args
          simp at hcal
          subst hcal
          simp [execOp, ho, resolve, invoke, Act.eval, Deferred.ofValue, run_callFunc hcb]
      · cases hl
    · rename_i t hcal
      cases hl
      unfold pop at hp; dsimp only at hp
      split at hp
      · rename_i f caps ys
        obtain ⟨hcb, hp⟩ := hp
        obtain ⟨u, us, e1, hu1, hus⟩ := replist_cons hx
        simp only [List.map_cons, List.cons.injEq] at e1
        obtain ⟨e1, e2⟩ := e1
        cases hu1 with
        | fn _ _ vs hl hr =>
          refine gives_call (f := f) (args := (us ++ vs).toArray) ?_ (callV_ok hm (xs := ys ++ caps) ?_ hp)
          · obtain ⟨cl, args, ts⟩ := c
            obtain ⟨args⟩ := args
            simp at hcal e2
            subst hcal; subst e2
            simp [execOp, ho, resolve, invoke, e1, Deferred.ofValue, run_callFunc hcb]
          · refine ⟨by simp [hus.1, hl], fun i s v hs hv => ?_⟩
            have hlen := hus.1
            by_cases hi : i < ys.length
            · rw [List.getElem?_append_left hi] at hs
              rw [List.getElem?_append_left (by omega)] at hv
              exact hus.2 i s v hs hv
            · rw [List.getElem?_append_right (by omega)] at hs hv
              rw [← hlen] at hv
              exact hr _ s v hs hv
      · exact hp.elim
    · cases hl
  case build t ps =>
    split at hl
    · rename_i z fs hz hu
      split at hl
      · rename_i places hpl
        split at hl
        · rename_i l hparts
          cases hl
          unfold pop at hp; dsimp only at hp
          split at hp
          · rename_i cs hf
            subst hp
            obtain ⟨i, zv, hi, hzv, _, hzr, _⟩ := zeros_rep (w := w) (own := owned F ι H) (ι := ι) (H := H) (nx := nx) hz
            obtain ⟨out, hfill, hout, hcell⟩ := fill_ok a.eval (cells := zv.cells) hparts hzr (cells_map_c _) (by rw [List.map_map] at hx; exact hx) hf
            refine same (.agg out) ?_ ?_
            · have hb : P.built t (ps.map fun (i, x) => (i, a.eval x)).toList = some out := by
                unfold Program.built
                simp only [hi, hu, hzv, hpl]
                simpa using hfill
              simp only [execOp, ho, Sem.run_bind, run_build w t _ out hb, Result.andThen_ok, Sem.run_pure]
            · have := Rep.agg (w := w) (own := owned F ι H) (ι := ι) (H := H) (nx := nx) cs out.toList hout.1 hcell hout.2
              simpa using this
          · exact hp.elim
        · cases hl
      · cases hl
    · cases hl
  case buildSlice t n ps =>
    split at hl
    · rename_i e hu
      split at hl
      · rename_i i hi
        split at hl
        · rename_i z hz
          split at hl
          · rename_i hcond
            split at hl
            · cases hl; cases he
            · cases hl
              unfold pop at hp; dsimp only at hp
              split at hp
              · rename_i es hes
                subst hp
                obtain ⟨hc1, hc2, hc3, hc4, hc5⟩ := hcond
                obtain ⟨r1, r2, r3, r4⟩ := rows_rep hes hx
                have hlen : ps.toList.length = n := by simp [hc4]
                have hpk : ∀ p ∈ ps.toList, (a.eval p.2).cells.size = i.size := fun p hp => r3 _ (List.mem_map.2 ⟨p.2, List.mem_map.2 ⟨p, hp, rfl⟩, rfl⟩)
                have hfl : (ps.toList.map (·.2)).map a.eval = ps.toList.map fun p => a.eval p.2 := by simp [Function.comp_def]
                have hout : ∀ cells : Array Value, cells.size = n * i.size → Instr.fill (fun j => some (j * i.size, i.size)) cells (ps.map fun (i, x) => (i, a.eval x)).toList = some (ps.toList.flatMap fun p => (a.eval p.2).cells.toList).toArray := by
                  intro cells hcs
                  have := fill_rows i.size a.eval ps.toList 0 cells hc5 hpk (by rw [hlen, hcs]; omega)
                  rw [Nat.zero_mul, setL_all _ _ (by rw [flat_len _ _ _ hpk, hlen, Array.length_toList, hcs])] at this
                  rw [← this]
                  simp
                have hrun := run_buildSlice (P := P) hu hi hz hc3 hout w
                have hesl : es.length = n := by rw [r1]; simp [hc4]
                refine gives_value (u := .slice (some ⟨w.heap.size, 0, none⟩) n n) (w' := w.alloc (.cells (ps.toList.flatMap fun p => (a.eval p.2).cells.toList).toArray e)) ?_ ⟨(Below.refl _ _).alloc (Nat.le_refl _) _, ?_⟩
                · simp only [execOp, ho, Sem.run_bind, hrun, Result.andThen_ok, Sem.run_pure]
                · have hkeep : Keeps w (w.alloc (.cells (ps.toList.flatMap fun p => (a.eval p.2).cells.toList).toArray e)) (owned F ι H) (owned F ι H) := Keeps.of_below _ ((Below.refl _ _).alloc (Nat.le_refl _) _)
                  have := RepC.sl (w := w.alloc (.cells (ps.toList.flatMap fun p => (a.eval p.2).cells.toList).toArray e)) (own := owned F ι H) i.size es (some ⟨w.heap.size, 0, none⟩) n (ps.toList.flatMap fun p => (a.eval p.2).cells.toList) r2 (by omega)
                    (by have : n * 1 ≤ n * i.size := Nat.mul_le_mul_left n (by omega)
                        omega) (by rw [flat_len _ _ _ hpk, hlen, hesl]) (fun _ => ⟨w.heap.size, 0, rfl, by simp, fun h => absurd (owned_lt hm h) (by omega), fun j u hu' => ?_⟩)
                    (fun j c v hc hv => (r4 j c v hc (by rw [hfl, List.flatMap_map]; exact hv)).keep hkeep)
                  · rw [hesl] at this
                    exact .c _ _ this
                  · rw [cell_of_cells (heap_alloc_new w _)]; simpa using hu'
              · exact hp.elim
          · cases hl
        · cases hl
      · cases hl
    · cases hl
  case makeSlice t l c =>
    split at hl
    · split at hl
      · split at hl
        · cases hl; cases he
        · cases hl
      · cases hl
    · cases hl
  all_goals first | (cases hl; done) | (cases hl; cases he; done) | (split at hl <;> cases hl <;> cases he) | skip
end
end Go.Proofs.Ytfghmpfiemmbgaa
