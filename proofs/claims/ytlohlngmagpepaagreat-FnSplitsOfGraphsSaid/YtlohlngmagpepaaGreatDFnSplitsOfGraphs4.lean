/- What is drawn for FnSplitsOfGraphs: within bounds, whatever it is. -/
import Derived.Test.YtlohlngmagpepaaGreatPFnSplitsOfGraphsx
import Derived.Test.YtlohlngmagpepaaGreatQFnSplitsOfGraphs0
import Derived.Test.YtlohlngmagpepaaGreatQFnSplitsOfGraphs1
import Derived.Test.YtlohlngmagpepaaGreatM1
import Derived.Test.YtlohlngmagpepaaGreatM40
import Derived.Test.YtlohlngmagpepaaGreatM41
import Derived.Test.YtlohlngmagpepaaGreatM9
import Derived.WalkKit
import Derived.RowKit3
import Derived.Deep.QuietTactic
import Derived.BigQuiet
import Derived.Deep.DeepCutAuto
import Derived.Deep.CutBlock
import Derived.Deep.LoopGhost
import Derived.Outline
import Derived.Deep.DeepFit
import Derived.Test.YtlohlngmagpepaaGreatDFnSplitsOfGraphs0
import Derived.Test.YtlohlngmagpepaaGreatDFnSplitsOfGraphs1
import Derived.Test.YtlohlngmagpepaaGreatDFnSplitsOfGraphs2
import Derived.Test.YtlohlngmagpepaaGreatDFnSplitsOfGraphs3
namespace Go.Proofs.YtlohlngmagpepaaGreat.Draw
open Go.RowKit Go.Proofs.YtlohlngmagpepaaGreat.PFnSplitsOfGraphs Go.Proofs.YtlohlngmagpepaaGreatW.PrintWords Go.Proofs.YtlohlngmagpepaaGreatW.PrintLast Go.Proofs.YtlohlngmagpepaaGreatW.PrintMore Go.Proofs.YtlohlngmagpepaaGreatM Go.Proofs.YtlohlngmagpepaaGreat.Pure
attribute [local go_sem] max2_int min2_int max_two min_two max_three min_three max_four min_four
set_option linter.unusedVariables false
set_option linter.unusedSimpArgs false
variable {w0 w w1 W : World} {g : Nat} {a : Int}
/-! What the solver solves. -/
theorem svG_small {l : List Int} (hG : GoodG l) (own : Bool) : SvOk l.length l.length l.length (svG l own) := by
  obtain ⟨_, h1, h2⟩ := togs_ints l own hG
  have := svOk_of (n := l.length) (l := togs l own) (by omega) h2
  rwa [h1] at this
theorem reduced_any {W : World} {v : Value} {q : List Nat} {s : Nat} (h : Rd W v (ints q)) (hs : s < 2 ^ 62) (hq : ∀ b ∈ q, b < 2 ^ 62 ∧ b ≠ 0) : Calls Tryz.prog 146 #[v, .int .i64 (s : Int)] W fun e W' => e = .returned (.int .i64 ((red q s : Nat) : Int)) ∧ Below W.heap.size W W' := by
  obtain ⟨A, c, rfl, hc, hC, hl⟩ := h
  exact impl_reduced.calls 1 A c (ints q) (s : Int) _ W hC hc (impl_reduced.eq 0 q s hs hq)
set_option maxRecDepth 100000 in
set_option maxHeartbeats 4000000 in
theorem solve_gen {W : World} {b n : Nat} {s : Sv} (hn : n ≤ 16) (hk : SvOk n n n s) (hS : SvAt W b s) {y : Nat} (hy : y < 2 ^ n) :
    Calls Tryz.prog 115 #[.pointer (some ⟨b, 0, none⟩), .int .i64 (y : Int)] W fun e W' => e = .returned (.tuple #[.int .i64 ((red s.quiet (reach s.ps y).2 : Nat) : Int), .bool (decide ((reach s.ps y).1 = 0))]) ∧ Below W.heap.size W W' := by
  have hu := Tryz.underlying73
  have h16 : (2 : Nat) ^ n ≤ 2 ^ 16 := Nat.pow_le_pow_right (by decide) hn
  have hrl := reach_lt hk hy
  obtain ⟨vp, vq, vi, hX, hP, hQ, hI⟩ := hS
  have hra := reach_any hX hP (fun p hp => ⟨(hk.ps p hp).1, by have := (hk.ps p hp).2.1; omega, by have := (hk.ps p hp).2.2; omega⟩) (by have := hk.pl; omega) (show y < 2 ^ 62 by omega)
  obtain ⟨Aq, cq, rfl⟩ := Kd.R_slice hQ
  have HRA := Aside0.mk hra
  have X := Aside0.mk hX
  have RQ := Aside0.mk hQ
  have HK := Aside0.mk hk
  generalize (reach s.ps y).1 = a at *
  generalize (reach s.ps y).2 = q at *
  have hz : ((a : Int) == 0) = decide (a = 0) := by
    rw [Bool.eq_iff_iff, beq_iff_eq, decide_eq_true_eq]
    exact Int.ofNat_eq_zero
  have HL := Aside0.mk hrl
  clear hra hX hP hQ hI hk hrl
  go_enter Tryz.func115, Tryz.ntmps115
  go_wp2_with (first
    | (go_at_call 145; (with_reducible refine HRA.out.mono ?_); rintro e w2 ⟨rfl, hb⟩; have HB := Aside0.mk hb; have hX := blk_below X.out hb; have nQ := Aside0.mk (Kd.R_below RQ.out hb); have hX1 := (blk_cell hX 1).trans rfl; clear RQ hX hb HRA; have RQ := nQ; clear nQ)
    | (go_at_call 146; (with_reducible refine (reduced_any (Rd.of RQ.out (by rw [ints_length]; have := HK.out.ql; omega)) (show q < 2 ^ 62 by have := HL.out.2; omega) (fun b hb => ⟨by have := HK.out.q b hb; omega, HK.out.qb.pos b hb⟩)).mono ?_); rintro e w3 ⟨rfl, hb⟩; have nB := Aside0.mk (below_step HB.out hb); clear HB hb; have HB := nB; clear nB))
  go_ret2
  exact ⟨by first | rfl | (simp [hz]; done), HB.out⟩
theorem solve_any {W : World} {b : Nat} {l : List Int} {own : Bool} (hG : GoodG l) (hS : SvAt W b (svG l own)) {y : Nat} (hy : y < 2 ^ l.length) :
    Calls Tryz.prog 115 #[.pointer (some ⟨b, 0, none⟩), .int .i64 (y : Int)] W fun e W' => e = .returned (.tuple #[.int .i64 ((red (svG l own).quiet (reach (svG l own).ps y).2 : Nat) : Int), .bool (decide ((reach (svG l own).ps y).1 = 0))]) ∧ Below W.heap.size W W' := solve_gen hG.top (svG_small hG own) hS hy
theorem blk_low2 {W W' : World} {b : Nat} {o : Obj} (h : W.heap[b]? = some o) (hb : Below W.heap.size W W') : W'.heap[b]? = some o := blk_below h hb
theorem isSet_any {W : World} {v : Value} {l : List Int} (own : Bool) (s : Int) {b : Bool} (h : Rd W v l) (hb : boardOk l s = b) : Calls Tryz.prog 80 #[.agg #[v, .bool own], .slice (some ⟨W.heap.size, 0, none⟩) 1 1] (W.alloc (.cells #[.int .i64 s] 3 (0, 0))) fun e W' => e = .returned (.bool b) ∧ Below W.heap.size W W' := by
  obtain ⟨A, c, rfl, hc, hC, hl⟩ := h.alloc (.cells #[.int .i64 s] 3 (0, 0))
  obtain ⟨K, hK⟩ := ev_get (impl_isSet.ev l own [s])
  have hL : Kd.C (Kd.int .i64) (W.alloc (.cells #[.int .i64 s] 3 (0, 0))) (some ⟨W.heap.size, 0, none⟩) 1 [s] := C_lit W [s] (by simp)
  refine (impl_isSet.calls K A c l own (some ⟨W.heap.size, 0, none⟩) 1 [s] b _ hC hc hL (Nat.le_refl _) ((hK K (Nat.le_refl _)).trans ?_)).mono fun _ _ ⟨he, h2⟩ => ⟨he, below_step (below_alloc (Below.refl _ _) _) h2⟩
  rw [← hb]
  unfold boardOk
  simp

theorem told_true (W : World) (a : Int) : Calls Tryz.prog 123 #[.int .i64 a, .bool true] W fun e W' => e = .returned (.tuple #[.int .i64 a, .bool true]) ∧ Below W.heap.size W W' :=
  (impl_told.calls a true a true W (by unfold impl_told.f; rw [if_pos rfl])).mono fun _ _ ⟨he, hn⟩ => ⟨he, Drawn0.below hn⟩
theorem told_false (W : World) (a : Int) : Calls Tryz.prog 123 #[.int .i64 a, .bool false] W fun e W' => e = .returned (.tuple #[.int .i64 0, .bool false]) ∧ Below W.heap.size W W' :=
  (impl_told.calls a false 0 false W (by unfold impl_told.f; rw [if_neg (by decide)])).mono fun _ _ ⟨he, hn⟩ => ⟨he, Drawn0.below hn⟩



/-! A copy of a slice. -/
theorem eql_nil (w : World) (t e : TypeId) (a : Option Addr) (n c : Nat) (h : Tryz.prog.underlying t = some (.slice e)) : (binOp .eql t (.slice a n c) (.slice none 0 0)).run Tryz.prog w = .ok (.bool a.isNone) w := by
  have h2 : ∀ d : Nat, (Op.equalIn (d + 1) t (.slice a n c) (.slice none 0 0)).run Tryz.prog w = .ok a.isNone w := fun d => by
    cases a <;> simp [Op.equalIn, run_underlying h]
  simp [binOp, Op.equal, Op.maxDepth, h2 9999]
set_option maxRecDepth 100000 in
set_option maxHeartbeats 4000000 in
theorem Clone_any {W : World} {v : Value} {l : List Int} (h : Rd W v l) (h1 : 0 < l.length) : Calls Tryz.prog 101 #[v] W fun e W' => ∃ u, e = .returned u ∧ Nw W W' u l ∧ Below W.heap.size W W' := by
  obtain ⟨A, c, rfl, hc, hC, hl⟩ := h
  obtain ⟨ad, rfl, had⟩ := Kd.at_int hC 0 (by omega) (by omega)
  clear had
  have q : ∀ (w : World) (a : Option Addr) (n c : Nat), (binOp .eql 24 (.slice a n c) (.slice none 0 0)).run Tryz.prog w = .ok (.bool a.isNone) w := fun w a n c => eql_nil w _ 3 a n c Tryz.underlying24
  have HC := Aside0.mk (Kd.C_below hC (below_alloc (Below.refl _ _) (.cells #[] 3 (0, 0))))
  have HB := Aside0.mk (below_alloc (Below.refl W.heap.size W) (.cells #[] 3 (0, 0)))
  have HO := Aside0.mk (Kd.R_of_own (h1 := fun _ => rfl) (enc := Value.int .i64) (xs := []) (ok := fun _ => True) (World.ownsRow_made (base := W.heap.size) (e := 3) W #[] 0 (Nat.le_refl _) (Nat.zero_le _) rfl) (fun _ _ => trivial))
  clear hC
  go_enter Tryz.func101, Tryz.ntmps101
  go_wp2_with ((with_reducible refine gate_builtin (b := .append) (xs := #[.tmp 5, .tmp 6]) rfl ?_); at_builtin; refine Kd.R_append_row (w0 := W) (Value.int .i64) 0 (h1 := fun _ => rfl) W.heap.size rfl (.tmp 5) (.tmp 6) 24 3 (.int .i64 0) 8 rfl Tryz.underlying24 info3 rfl (by decide) _ [] l (some ad) l.length c (fun _ => True) rfl rfl (fun _ _ => trivial) HO.out HC.out HB.out (by simp) (by simp; omega) ?_; intro v1 w1 ho hb _ _)
  go_ret
  exact ⟨_, rfl, ⟨ho, hl⟩, hb⟩
/-! All quiet sets. -/
set_option maxRecDepth 100000 in
set_option maxHeartbeats 4000000 in
theorem patterns_any {W : World} {v : Value} {q : List Nat} (h : Rd W v (ints q)) (hB : Basis q) (hb : ∀ b ∈ q, b < 65536) (hl : q.length ≤ 16) :
    Calls Tryz.prog 83 #[v] W fun e W' => ∃ A c, e = .returned (.slice A (sums q).length c) ∧ Kd.R (Kd.int .i64) 3 W' W.heap.size (fun _ => True) (.slice A (sums q).length c) (ints (sums q)) ∧ Below W.heap.size W W' := by
  obtain ⟨A, c, rfl⟩ := h.slice
  have HR := Aside0.mk h
  have HQ := Aside0.mk hb
  have HSM := Aside0.mk (sums_small hb hl)
  have HSO := Aside0.mk (ints_sorted (sums_all hB).up)
  clear h hb hB
  rw [ints_length] at HR ⊢
  go_enter Tryz.func83, Tryz.ntmps83
  go_wp2_with ((with_reducible refine gate_dst (N := 8) rfl ?_); refine Kd.R_lit (Kd.int .i64) W.heap.size 3 ?hg (N := 8) ?hd (xs := ([0] : List Int)) (inner := [.int .i64 0]) (ok := fun _ => True) (okp := fun _ => True) ?hr ?hp (fun _ hk => hk) trivial (Below.refl _ _) (Nat.le_refl _) (by simp) ?_; (case hd => rfl); (case hg => rfl); (case hr => first | (go_simp; done) | (go_simp; rfl)); (case hp => exact (Reps.one (show Kd.M (Kd.int .i64) _ _ _ (0 : Int) [.int .i64 0] from rfl) (Reps.none _ _))); intro v1 w1 ho hb _ _; obtain ⟨A1, c1, rfl⟩ := Kd.R_slice ho; have HV := Aside0.mk ho; have HB := Aside0.mk hb; clear ho hb)
  go_loopw [3, 11] (fun v3 v11 wr => ∃ (i : Nat) (A3 : Option Addr) (c3 : Nat), i ≤ q.length ∧ v11 = .int .i64 (i : Int) ∧ v3 = .slice A3 (sumsGo [0] (q.take i)).length c3 ∧ Aside0 (Kd.R (Kd.int .i64) 3 wr W.heap.size (fun _ => True) (.slice A3 (sumsGo [0] (q.take i)).length c3) (ints (sumsGo [0] (q.take i)))) ∧ Aside0 (Below W.heap.size W wr)) (fun _ v11 _ => q.length - (intOf v11).toNat)
  case atStart => exact ⟨0, A1, c1, Nat.zero_le _, rfl, rfl, HV, HB⟩
  case round =>
    clear HV HB
    obtain ⟨i, A3, c3, hi, rfl, rfl, HV, HB⟩ := hrel
    by_cases hlt : i < q.length
    · have hst := sums_take q i hlt
      obtain ⟨ho1, ho2, ho3⟩ := HSM.out i
      generalize sumsGo [0] (q.take i) = o at *
      have hbi := HQ.out q[i] (List.getElem_mem hlt)
      obtain ⟨ad, e1, hc0⟩ := HR.out.cell (i : Int) (by omega) (by first | omega | (rw [ints_length]; omega))
      subst e1
      clear hc0
      have hc0 := (HR.out.below HB.out).cellN i (by first | omega | (rw [ints_length]; omega))
      rw [ints_get q i hlt] at hc0
      generalize q[i] = b at *
      have HO := Aside0.mk ho1
      have HST := Aside0.mk hst
      clear ho1 hst
      go_wp2_with (go_at_call 101; (with_reducible refine (Clone_any (Rd.of HV.out (by rw [ints_length]; omega)) (by rw [ints_length]; omega)).mono ?_); rintro e w2 ⟨u, rfl, hn, hb⟩; obtain ⟨A6, c6, h6⟩ := hn.slice; rw [ints_length] at h6; subst h6; have hsz := hb.size; have nV := Aside0.mk (Kd.R_below (Kd.R_mono (ok' := fun k => k < wr.heap.size ∨ w2.heap.size ≤ k) (Kd.R_bound HV.out) (fun k hk => Or.inl hk.2.2.1)) hb); have HC := Aside0.mk (Own.of hn.1); have nB := Aside0.mk (below_step HB.out hb); clear HV HB hn hb hc0; have HV := nV; have HB := nB; clear nV nB)
      obtain ⟨lo, hlo⟩ : ∃ z, wr.heap.size = z := ⟨_, rfl⟩
      rw [hlo] at HV HC hsz
      have HS := Aside0.mk (Nat.le_refl w2.heap.size)
      go_loopw [3, 18] (fun v3 v18 wq => ∃ (j : Nat) (A4 : Option Addr) (c4 : Nat), j ≤ o.length ∧ v18 = .int .i64 (j : Int) ∧ v3 = .slice A4 (o.length + j) c4 ∧ Aside0 (Kd.R (Kd.int .i64) 3 wq W.heap.size (fun k => k < lo ∨ w2.heap.size ≤ k) (.slice A4 (o.length + j) c4) (ints (o ++ (o.take j).map fun x => x ^^^ b))) ∧ Aside0 (Own wq lo w2.heap.size (.slice A6 o.length c6) (ints o)) ∧ Aside0 (Below W.heap.size W wq) ∧ Aside0 (w2.heap.size ≤ wq.heap.size)) (fun _ v18 _ => o.length - (intOf v18).toNat)
      case atStart => exact ⟨0, A3, c3, Nat.zero_le _, rfl, rfl, ⟨by rw [List.take_zero, List.map_nil, List.append_nil]; exact HV.out⟩, HC, HB, HS⟩
      case round =>
        clear HV HC HB HS
        obtain ⟨j, A4, c4, hj, rfl, rfl, HV, HC, HB, HS⟩ := hrel
        by_cases hlj : j < o.length
        · have RC := Own.rd HC.out (by rw [ints_length]; omega)
          obtain ⟨ad6, e1, hc_⟩ := RC.cell (j : Int) (by omega) (by first | omega | (rw [ints_length]; omega))
          subst e1
          clear hc_
          have hc1 := RC.cellN j (by first | omega | (rw [ints_length]; omega))
          rw [ints_get o j hlj] at hc1
          have ht1 := take_one o (fun x => x ^^^ b) j hlj
          have hx := HO.out o[j] (List.getElem_mem hlj)
          generalize o[j] = x at *
          have xe : Go.bits .xor .i64 (x : Int) (b : Int) = ((x ^^^ b : Nat) : Int) := xor_nat x b (by omega) (by omega)
          have HT1 := Aside0.mk ht1
          clear RC ht1
          have hwl : (o ++ (o.take j).map fun x => x ^^^ b).length = o.length + j := by simp; omega
          go_wp2_with ((with_reducible refine gate_builtin (b := .append) (xs := #[.tmp 22, .tmp 26]) rfl ?_); at_builtin; refine Kd.R_append (Kd.int .i64) (w0 := W) W.heap.size rfl (.tmp 22) (.tmp 26) 24 3 (.int .i64 0) 8 rfl Tryz.underlying24 info3 rfl (by decide) (by decide) (.slice A4 (o.length + j) c4) (ints (o ++ (o.take j).map fun x => x ^^^ b)) (((x ^^^ b : Nat)) : Int) [.int .i64 (((x ^^^ b : Nat)) : Int)] (fun k => k < lo ∨ w2.heap.size ≤ k) (fun _ => False) rfl (by first | (go_simp; done) | (go_simp; rfl)) ?aP (fun _ hk => hk.elim) (fun k hk => Or.inr (Nat.le_trans HS.out hk)) HV.out HB.out HB.out.size ?aL ?_; (case aP => exact rfl); (case aL => rw [ints_length, hwl]; omega); intro v7 w7 ho hb hg _; obtain ⟨A7, c7, h7⟩ := Kd.R_slice ho; rw [List.length_append, List.length_singleton, ints_length, hwl] at h7; subst h7; have nC := Aside0.mk (show Own w7 lo w2.heap.size _ (ints o) from rInt_grown2 HC.out hg (own_ne HC.out HV.out (fun k h1 h2 => by omega))); have nV := Aside0.mk ho; have nS := Aside0.mk (Nat.le_trans HS.out hg.size); have nB := Aside0.mk hb; clear HC HV HS HB ho hb hg hc1; have HC := nC; have HV := nV; have HS := nS; have HB := nB; clear nC nV nS nB)
          go_roundw
          case rel =>
            refine ⟨j + 1, A7, c7, by omega, by go_num, rfl, ⟨?_⟩, HC, HB, HS⟩
            rw [HT1.out, ints_append]
            exact HV.out
          case measure => simp [intOf]; omega
        · go_wp2
          go_roundw
          case rel =>
            have e2 : j = o.length := by omega
            subst e2
            refine ⟨i + 1, A4, c4, by omega, by go_num, by rw [HST.out]; simp, ⟨?_⟩, HB⟩
            have h8 := HV.out
            rw [List.take_length] at h8
            rw [HST.out, List.length_append, List.length_map]
            exact Kd.R_mono h8 (fun _ _ => trivial)
          case measure => simp [intOf]; omega
    · have e2 : sumsGo [0] (q.take i) = sums q := by rw [List.take_of_length_le (by omega)]; rfl
      have hsl := (HSM.out i).2.1
      rw [e2] at HV hsl ⊢
      have hso := HSO.out
      have hsf : slices_Sort_int_int.f (ints (sums q)) = some (ints (sums q)) := by
        unfold slices_Sort_int_int.f
        rw [if_pos (by rw [ints_length]; omega), hso]
      have HSF := Aside0.mk hsf
      clear hso hsf
      go_wp2_with (go_at_call 84; (refine (slices_Sort_int_int.calls (fun _ => True) _ (ints (sums q)) _ W wr HB.out HV.out HSF.out).mono ?_); rintro e w2 ⟨rfl, ho, hb, _⟩; have nV := Aside0.mk ho; have nB := Aside0.mk hb; clear HV HB ho hb; have HV := nV; have HB := nB; clear nV nB)
      go_ret
      exact ⟨_, _, rfl, Kd.R_mono HV.out (fun _ _ => trivial), HB.out⟩


/-! What solving returns. -/








theorem IsGraph_any {W : World} {v : Value} {l : List Int} (own : Bool) {b : Bool} (h : Rd W v l) (hr : good l = b) : Calls Tryz.prog 16 #[.agg #[v, .bool own]] W fun e W' => e = .returned (.bool b) ∧ Below W.heap.size W W' := by
  obtain ⟨A, c, rfl, hc, hC, hl⟩ := h
  obtain ⟨K, hK⟩ := ev_get (impl_isGraph.ev l own)
  exact impl_IsGraph.calls K A c l own b W hC hc (by
    have h1 : impl_isGraph.f K l own = some (good l) := hK K (Nat.le_refl _)
    unfold impl_IsGraph.f
    rw [h1, hr]
    rfl)

/-! What the laws' own helpers return. -/
theorem Rd.dn {W : World} {v : Value} {l : List Int} (h : Rd W v l) (n : Nat) : Rd (W.drewN n) v l := h.below (pw_below_drewN (Below.refl _ _) n)
theorem hSame_sem {W : World} {v v2 : Value} {l l2 : List Int} (h : Rd W v l) (h2 : Rd W v2 l2) (b : Bool) (hb : decide (l = l2) = b) : Calls Tryz.prog 22 #[v, v2] W fun e W' => e = .returned (.bool b) ∧ Below W.heap.size W W' := by
  obtain ⟨A, c, rfl, hc, hC, hl⟩ := h
  obtain ⟨A2, c2, rfl, hc2, hC2, hl2⟩ := h2
  obtain ⟨K, hK⟩ := ev_get (laws_hSame.ev l l2 (by omega))
  exact (laws_hSame.calls K A c l A2 c2 l2 b W hC hc hC2 hc2 ((hK K (Nat.le_refl _)).trans (by rw [hb]))).mono fun _ _ ⟨he, hn⟩ => ⟨he, Drawn0.below hn⟩
theorem hSum_sem {W : World} {v : Value} {l : List Nat} (h : Rd W v (ints l)) (hs : l.sum < 4611686018427387904) : Calls Tryz.prog 31 #[v] W fun e W' => e = .returned (.int .i64 (l.sum : Int)) ∧ Below W.heap.size W W' := by
  obtain ⟨A, c, rfl, hc, hC, hl⟩ := h
  obtain ⟨K, hK⟩ := ev_get (laws_hSum.ev l (by rw [ints_length] at hl; omega) hs)
  exact (laws_hSum.calls K A c (ints l) _ W hC hc (hK K (Nat.le_refl _))).mono fun _ _ ⟨he, hn⟩ => ⟨he, Drawn0.below hn⟩
theorem hSum_q {W : World} {v : Value} {l : List Nat} (h : Rd W v (ints l)) (hs : l.sum < 4611686018427387904) (k : Nat) : Calls Tryz.prog 31 #[v] (W.drewN k) fun e W' => e = .returned (.int .i64 (l.sum : Int)) ∧ ∃ n, W' = W.drewN n := by
  obtain ⟨A, c, rfl, hc, hC, hl⟩ := h.dn k
  obtain ⟨K, hK⟩ := ev_get (laws_hSum.ev l (by rw [ints_length] at hl; omega) hs)
  exact (laws_hSum.calls K A c (ints l) _ (W.drewN k) hC hc (hK K (Nat.le_refl _))).mono fun _ _ ⟨he, n, hn⟩ => ⟨he, k + n, by rw [hn, World.drewN_drewN]⟩
theorem hHas_sem {W : World} {v : Value} {l : List Int} (h : Rd W v l) (x : Int) (b : Bool) (hb : l.contains x = b) : Calls Tryz.prog 23 #[v, .int .i64 x] W fun e W' => e = .returned (.bool b) ∧ Below W.heap.size W W' := by
  obtain ⟨A, c, rfl, hc, hC, hl⟩ := h
  obtain ⟨K, hK⟩ := ev_get (laws_hHas.ev l x (by omega))
  exact (laws_hHas.calls K A c l x b W hC hc ((hK K (Nat.le_refl _)).trans (by rw [hb]))).mono fun _ _ ⟨he, hn⟩ => ⟨he, Drawn0.below hn⟩
end Go.Proofs.YtlohlngmagpepaaGreat.Draw
