/- What is drawn for FnQuietPatterns: within bounds, whatever it is. -/
import Derived.Test.YtjoeakahfomckaaGreatPFnQuietPatternsx
import Derived.Test.YtjoeakahfomckaaGreatQFnQuietPatterns0
import Derived.Test.YtjoeakahfomckaaGreatQFnQuietPatterns1
import Derived.Test.YtjoeakahfomckaaGreatM1
import Derived.Test.YtjoeakahfomckaaGreatM33
import Derived.WalkKit
import Derived.RowKit3
import Derived.Deep.QuietTactic
import Derived.BigQuiet
import Derived.Deep.DeepCutAuto
import Derived.Deep.CutBlock
import Derived.Deep.LoopGhost
import Derived.Outline
import Derived.Deep.DeepFit
import Derived.Test.YtjoeakahfomckaaGreatDFnQuietPatterns0
import Derived.Test.YtjoeakahfomckaaGreatDFnQuietPatterns1
import Derived.Test.YtjoeakahfomckaaGreatDFnQuietPatterns2
import Derived.Test.YtjoeakahfomckaaGreatDFnQuietPatterns3
import Derived.Test.YtjoeakahfomckaaGreatDFnQuietPatterns4
namespace Go.Proofs.YtjoeakahfomckaaGreat.Draw
open Go.RowKit Go.Proofs.YtjoeakahfomckaaGreat.PFnQuietPatterns Go.Proofs.YtjoeakahfomckaaGreatW.PrintWords Go.Proofs.YtjoeakahfomckaaGreatW.PrintLast Go.Proofs.YtjoeakahfomckaaGreatW.PrintMore Go.Proofs.YtjoeakahfomckaaGreatM Go.Proofs.YtjoeakahfomckaaGreat.Pure
attribute [local go_sem] max2_int min2_int max_two min_two max_three min_three max_four min_four
set_option linter.unusedVariables false
set_option linter.unusedSimpArgs false
variable {w0 w w1 W : World} {g : Nat} {a : Int}
/-! A copy of a slice. -/
theorem eql_nil (w : World) (t e : TypeId) (a : Option Addr) (n c : Nat) (h : Tryz.prog.underlying t = some (.slice e)) : (binOp .eql t (.slice a n c) (.slice none 0 0)).run Tryz.prog w = .ok (.bool a.isNone) w := by
  have h2 : ∀ d : Nat, (Op.equalIn (d + 1) t (.slice a n c) (.slice none 0 0)).run Tryz.prog w = .ok a.isNone w := fun d => by
    cases a <;> simp [Op.equalIn, run_underlying h]
  simp [binOp, Op.equal, Op.maxDepth, h2 9999]
set_option maxRecDepth 100000 in
set_option maxHeartbeats 4000000 in
theorem Clone_any {W : World} {v : Value} {l : List Int} (h : Rd W v l) (h1 : 0 < l.length) : Calls Tryz.prog 87 #[v] W fun e W' => ∃ u, e = .returned u ∧ Nw W W' u l ∧ Below W.heap.size W W' := by
  obtain ⟨A, c, rfl, hc, hC, hl⟩ := h
  obtain ⟨ad, rfl, had⟩ := Kd.at_int hC 0 (by omega) (by omega)
  clear had
  have q : ∀ (w : World) (a : Option Addr) (n c : Nat), (binOp .eql 24 (.slice a n c) (.slice none 0 0)).run Tryz.prog w = .ok (.bool a.isNone) w := fun w a n c => eql_nil w _ 3 a n c Tryz.underlying24
  have HC := Aside0.mk (Kd.C_below hC (below_alloc (Below.refl _ _) (.cells #[] 3 (0, 0))))
  have HB := Aside0.mk (below_alloc (Below.refl W.heap.size W) (.cells #[] 3 (0, 0)))
  have HO := Aside0.mk (Kd.R_of_own (h1 := fun _ => rfl) (enc := Value.int .i64) (xs := []) (ok := fun _ => True) (World.ownsRow_made (base := W.heap.size) (e := 3) W #[] 0 (Nat.le_refl _) (Nat.zero_le _) rfl) (fun _ _ => trivial))
  clear hC
  go_enter Tryz.func87, Tryz.ntmps87
  go_wp2_with ((with_reducible refine gate_builtin (b := .append) (xs := #[.tmp 5, .tmp 6]) rfl ?_); at_builtin; refine Kd.R_append_row (w0 := W) (Value.int .i64) 0 (h1 := fun _ => rfl) W.heap.size rfl (.tmp 5) (.tmp 6) 24 3 (.int .i64 0) 8 rfl Tryz.underlying24 info3 rfl (by decide) _ [] l (some ad) l.length c (fun _ => True) rfl rfl (fun _ _ => trivial) HO.out HC.out HB.out (by simp) (by simp; omega) ?_; intro v1 w1 ho hb _ _)
  go_ret
  exact ⟨_, rfl, ⟨ho, hl⟩, hb⟩
/-! All quiet sets. -/
theorem own_ne {w : World} {b b2 e e2 : Nat} {ok ok2 : Nat → Prop} {u v : Value} {l l2 : List Int} (h : Kd.R (Kd.int .i64) e w b ok u l) (h2 : Kd.R (Kd.int .i64) e2 w b2 ok2 v l2) (hn : ∀ k, ok k → ok2 k → False) : u.ownBlock = none ∨ u.ownBlock ≠ v.ownBlock := by
  cases hu : u.ownBlock with
  | none => exact .inl rfl
  | some k => exact .inr fun e => hn k (h.1 k hu) (h2.1 k (by rw [← e]))
theorem rInt_grown2 {W w1 : World} {base : Nat} {ok : Nat → Prop} {v : Value} {xs : List Int} {row : Option Nat} (h : Kd.R (Kd.int .i64) 3 W base ok v xs) (hg : W.grownBy w1 row) (hne : v.ownBlock = none ∨ v.ownBlock ≠ row) : Kd.R (Kd.int .i64) 3 w1 base ok v xs := Kd.R_of_own (own_other (Kd.own_of_R h) hg hne) h.1
set_option maxRecDepth 100000 in
set_option maxHeartbeats 4000000 in
theorem patterns_any {W : World} {v : Value} {q : List Nat} (h : Rd W v (ints q)) (hB : Basis q) (hb : ∀ b ∈ q, b < 65536) (hl : q.length ≤ 16) :
    Calls Tryz.prog 52 #[v] W fun e W' => ∃ A c, e = .returned (.slice A (sums q).length c) ∧ Kd.R (Kd.int .i64) 3 W' W.heap.size (fun _ => True) (.slice A (sums q).length c) (ints (sums q)) ∧ Below W.heap.size W W' := by
  obtain ⟨A, c, rfl⟩ := h.slice
  have HR := Aside0.mk h
  have HQ := Aside0.mk hb
  have HSM := Aside0.mk (sums_small hb hl)
  have HSO := Aside0.mk (ints_sorted (sums_all hB).up)
  clear h hb hB
  rw [ints_length] at HR ⊢
  go_enter Tryz.func52, Tryz.ntmps52
  go_wp2_with ((with_reducible refine gate_dst (N := 8) rfl ?_); refine Kd.R_lit (Kd.int .i64) W.heap.size 3 ?hg (N := 8) ?hd (xs := ([0] : List Int)) (inner := [.int .i64 0]) (ok := fun _ => True) (okp := fun _ => True) ?hr ?hp (fun _ hk => hk) trivial (Below.refl _ _) (Nat.le_refl _) (by simp) ?_; (case hd => rfl); (case hg => rfl); (case hr => first | (go_simp; done) | (go_simp; rfl)); (case hp => exact (Reps.one (show Kd.M (Kd.int .i64) _ _ _ (0 : Int) [.int .i64 0] from rfl) (Reps.none _ _))); intro v1 w1 ho hb _ _; obtain ⟨A1, c1, rfl⟩ := Kd.R_slice ho; have HV := Aside0.mk ho; have HB := Aside0.mk hb; clear ho hb)
  go_loopw [3, 11] (fun v3 v11 wr => ∃ (i : Nat) (A3 : Option Addr) (c3 : Nat), i ≤ q.length ∧ v11 = .int .i64 (i : Int) ∧ v3 = .slice A3 (sumsGo [0] (q.take i)).length c3 ∧ Aside0 (Kd.R (Kd.int .i64) 3 wr W.heap.size (fun _ => True) (.slice A3 (sumsGo [0] (q.take i)).length c3) (ints (sumsGo [0] (q.take i)))) ∧ Aside0 (Below W.heap.size W wr)) (fun _ v11 _ => q.length - (intOf v11).toNat)
  case atStart => exact ⟨0, A1, c1, Nat.zero_le _, rfl, rfl, HV, HB⟩
  case round =>
    clear HV HB
    obtain ⟨i, A3, c3, hi, rfl, rfl, HV, HB⟩ := hrel
    by_cases hlt : i < q.length
    · have hst := sums_take q i hlt
      obtain ⟨ho1, ho2, ho3⟩ := HSM.out i
      generalize sumsGo [0] (q.take i) = o at *
      have hbi := HQ.out q[i] (List.getElem_mem hlt)
      obtain ⟨ad, e1, hc0⟩ := HR.out.cell (i : Int) (by omega) (by first | omega | (rw [ints_length]; omega))
      subst e1
      clear hc0
      have hc0 := (HR.out.below HB.out).cellN i (by first | omega | (rw [ints_length]; omega))
      rw [ints_get q i hlt] at hc0
      generalize q[i] = b at *
      have HO := Aside0.mk ho1
      have HST := Aside0.mk hst
      clear ho1 hst
      go_wp2_with (go_at_call 87; (with_reducible refine (Clone_any (Rd.of HV.out (by rw [ints_length]; omega)) (by rw [ints_length]; omega)).mono ?_); rintro e w2 ⟨u, rfl, hn, hb⟩; obtain ⟨A6, c6, h6⟩ := hn.slice; rw [ints_length] at h6; subst h6; have hsz := hb.size; have nV := Aside0.mk (Kd.R_below (Kd.R_mono (ok' := fun k => k < wr.heap.size ∨ w2.heap.size ≤ k) (Kd.R_bound HV.out) (fun k hk => Or.inl hk.2.2.1)) hb); have HC := Aside0.mk (Own.of hn.1); have nB := Aside0.mk (below_step HB.out hb); clear HV HB hn hb hc0; have HV := nV; have HB := nB; clear nV nB)
      obtain ⟨lo, hlo⟩ : ∃ z, wr.heap.size = z := ⟨_, rfl⟩
      rw [hlo] at HV HC hsz
      have HS := Aside0.mk (Nat.le_refl w2.heap.size)
      go_loopw [3, 18] (fun v3 v18 wq => ∃ (j : Nat) (A4 : Option Addr) (c4 : Nat), j ≤ o.length ∧ v18 = .int .i64 (j : Int) ∧ v3 = .slice A4 (o.length + j) c4 ∧ Aside0 (Kd.R (Kd.int .i64) 3 wq W.heap.size (fun k => k < lo ∨ w2.heap.size ≤ k) (.slice A4 (o.length + j) c4) (ints (o ++ (o.take j).map fun x => x ^^^ b))) ∧ Aside0 (Own wq lo w2.heap.size (.slice A6 o.length c6) (ints o)) ∧ Aside0 (Below W.heap.size W wq) ∧ Aside0 (w2.heap.size ≤ wq.heap.size)) (fun _ v18 _ => o.length - (intOf v18).toNat)
      case atStart => exact ⟨0, A3, c3, Nat.zero_le _, rfl, rfl, ⟨by rw [List.take_zero, List.map_nil, List.append_nil]; exact HV.out⟩, HC, HB, HS⟩
      case round =>
        clear HV HC HB HS
        obtain ⟨j, A4, c4, hj, rfl, rfl, HV, HC, HB, HS⟩ := hrel
        by_cases hlj : j < o.length
        · have RC := Own.rd HC.out (by rw [ints_length]; omega)
          obtain ⟨ad6, e1, hc_⟩ := RC.cell (j : Int) (by omega) (by first | omega | (rw [ints_length]; omega))
          subst e1
          clear hc_
          have hc1 := RC.cellN j (by first | omega | (rw [ints_length]; omega))
          rw [ints_get o j hlj] at hc1
          have ht1 := take_one o (fun x => x ^^^ b) j hlj
          have hx := HO.out o[j] (List.getElem_mem hlj)
          generalize o[j] = x at *
          have xe : Go.bits .xor .i64 (x : Int) (b : Int) = ((x ^^^ b : Nat) : Int) := xor_nat x b (by omega) (by omega)
          have HT1 := Aside0.mk ht1
          clear RC ht1
          have hwl : (o ++ (o.take j).map fun x => x ^^^ b).length = o.length + j := by simp; omega
          go_wp2_with ((with_reducible refine gate_builtin (b := .append) (xs := #[.tmp 22, .tmp 26]) rfl ?_); at_builtin; refine Kd.R_append (Kd.int .i64) (w0 := W) W.heap.size rfl (.tmp 22) (.tmp 26) 24 3 (.int .i64 0) 8 rfl Tryz.underlying24 info3 rfl (by decide) (by decide) (.slice A4 (o.length + j) c4) (ints (o ++ (o.take j).map fun x => x ^^^ b)) (((x ^^^ b : Nat)) : Int) [.int .i64 (((x ^^^ b : Nat)) : Int)] (fun k => k < lo ∨ w2.heap.size ≤ k) (fun _ => False) rfl (by first | (go_simp; done) | (go_simp; rfl)) ?aP (fun _ hk => hk.elim) (fun k hk => Or.inr (Nat.le_trans HS.out hk)) HV.out HB.out HB.out.size ?aL ?_; (case aP => exact rfl); (case aL => rw [ints_length, hwl]; omega); intro v7 w7 ho hb hg _; obtain ⟨A7, c7, h7⟩ := Kd.R_slice ho; rw [List.length_append, List.length_singleton, ints_length, hwl] at h7; subst h7; have nC := Aside0.mk (show Own w7 lo w2.heap.size _ (ints o) from rInt_grown2 HC.out hg (own_ne HC.out HV.out (fun k h1 h2 => by omega))); have nV := Aside0.mk ho; have nS := Aside0.mk (Nat.le_trans HS.out hg.size); have nB := Aside0.mk hb; clear HC HV HS HB ho hb hg hc1; have HC := nC; have HV := nV; have HS := nS; have HB := nB; clear nC nV nS nB)
          go_roundw
          case rel =>
            refine ⟨j + 1, A7, c7, by omega, by go_num, rfl, ⟨?_⟩, HC, HB, HS⟩
            rw [HT1.out, ints_append]
            exact HV.out
          case measure => simp [intOf]; omega
        · go_wp2
          go_roundw
          case rel =>
            have e2 : j = o.length := by omega
            subst e2
            refine ⟨i + 1, A4, c4, by omega, by go_num, by rw [HST.out]; simp, ⟨?_⟩, HB⟩
            have h8 := HV.out
            rw [List.take_length] at h8
            rw [HST.out, List.length_append, List.length_map]
            exact Kd.R_mono h8 (fun _ _ => trivial)
          case measure => simp [intOf]; omega
    · have e2 : sumsGo [0] (q.take i) = sums q := by rw [List.take_of_length_le (by omega)]; rfl
      have hsl := (HSM.out i).2.1
      rw [e2] at HV hsl ⊢
      have hso := HSO.out
      have hsf : slices_Sort_int_int.f (ints (sums q)) = some (ints (sums q)) := by
        unfold slices_Sort_int_int.f
        rw [if_pos (by rw [ints_length]; omega), hso]
      have HSF := Aside0.mk hsf
      clear hso hsf
      go_wp2_with (go_at_call 88; (refine (slices_Sort_int_int.calls (fun _ => True) _ (ints (sums q)) _ W wr HB.out HV.out HSF.out).mono ?_); rintro e w2 ⟨rfl, ho, hb, _⟩; have nV := Aside0.mk ho; have nB := Aside0.mk hb; clear HV HB ho hb; have HV := nV; have HB := nB; clear nV nB)
      go_ret
      exact ⟨_, _, rfl, Kd.R_mono HV.out (fun _ _ => trivial), HB.out⟩
set_option maxRecDepth 100000 in
set_option maxHeartbeats 4000000 in
theorem QuietPatterns_any {W : World} {v : Value} {l : List Int} (own : Bool) {r : List Int} {ok : Bool} (h : Rd W v l) (hr : qpR l own = (r, ok)) :
    Calls Tryz.prog 20 #[.agg #[v, .bool own]] W fun e W' => ∃ u, e = .returned (.tuple #[u, .bool ok]) ∧ Rd W' u r ∧ Below W.heap.size W W' := by
  have hu := Tryz.underlying26
  have hu2 := Tryz.underlying49
  obtain ⟨A, c, rfl⟩ := h.slice
  have HB := Aside0.mk (below_alloc (Below.refl W.heap.size W) (.cells #[.slice A l.length c, .bool own] 26 (0, 0)))
  have X := Aside0.mk (blk_new W (.cells #[.slice A l.length c, .bool own] 26 (0, 0)))
  have R := Aside0.mk (h.alloc (.cells #[.slice A l.length c, .bool own] 26 (0, 0)))
  have hnil : ∀ w, Rd w (.slice none 0 0) [] := fun w => Rd.of (Kd.R_nil (Kd.int .i64) 3 w 0 (fun _ => True)) (by simp)
  clear h
  go_enter Tryz.func20, Tryz.ntmps20
  go_upto_region 1 with (fail)
  generalize W.alloc (.cells #[.slice A l.length c, .bool own] 26 (0, 0)) = w1 at *
  (try clear hX0 hX1 fX0 fX1); have hX0 := (blk_cell X.out 0).trans rfl; have hX1 := (blk_cell X.out 1).trans rfl; have fX0 := blk_frozen X.out 0; have fX1 := blk_frozen X.out 1
  unfold qpR at hr
  cases hok : good l
  · rw [hok, Bool.false_and, if_neg (by decide)] at hr
    injection hr with hr1 hr2
    subst hr1
    subst hr2
    have HG := Aside0.mk hok
    clear hok
    go_wp2_with (go_at_call 39; (with_reducible refine (isGraph_any own R.out HG.out).mono ?_); rintro e w2 ⟨rfl, hb⟩; have nB := Aside0.mk (below_step HB.out hb); clear X HB R hb hX0 hX1 fX0 fX1; have HB := nB; clear nB)
    go_ret2
    exact ⟨_, rfl, hnil _, HB.out⟩
  · have hG := (good_iff l).1 hok
    have HG := Aside0.mk hok
    have HGG := Aside0.mk hG
    obtain ⟨hq1, hq2, hq3⟩ := quiet_small hG own
    have HQ1 := Aside0.mk hq1
    have HQ3 := Aside0.mk hq3
    have HSS := Aside0.mk (sums_small hq1 hq2 (svG l own).quiet.length)
    rw [hok, Bool.true_and] at hr
    clear hok hG hq1 hq3
    by_cases e8 : (svG l own).quiet.length ≤ 8
    · rw [decide_eq_true e8, if_pos rfl] at hr
      injection hr with hr1 hr2
      subst hr1
      subst hr2
      have hgt : ((8 : Int) < ((svG l own).quiet.length : Int)) = False := eq_false (by omega)
      go_wp2_with (first
        | (go_at_call 39; (with_reducible refine (isGraph_any own R.out HG.out).mono ?_); rintro e w2 ⟨rfl, hb⟩; have nX := Aside0.mk (blk_below X.out hb); have nR := Aside0.mk (R.out.below hb); have nB := Aside0.mk (below_step HB.out hb); clear X HB R hb hX0 hX1 fX0 fX1; have X := nX; have R := nR; have HB := nB; clear nX nR nB; (try clear hX0 hX1 fX0 fX1); have hX0 := (blk_cell X.out 0).trans rfl; have hX1 := (blk_cell X.out 1).trans rfl; have fX0 := blk_frozen X.out 0; have fX1 := blk_frozen X.out 1)
        | (go_at_call 40; (with_reducible refine (solverOf_any own R.out HGG.out).mono ?_); rintro e w3 ⟨bs, rfl, hle, hs, hb⟩; have hs2 : SvAt w3 bs (svG l own) := hs; obtain ⟨vp, vq, vi, hS, hP, hQ, hI⟩ := hs2; obtain ⟨Aq, cq, rfl⟩ := Kd.R_slice hQ; rw [ints_length] at hS hQ; (try clear hS1); have hS1 := (blk_cell hS 1).trans rfl; (try clear RQ); have RQ := Aside0.mk (Rd.of hQ (by rw [ints_length]; omega)); have nX := Aside0.mk (blk_below X.out hb); have nR := Aside0.mk (R.out.below hb); have nB := Aside0.mk (below_step HB.out hb); clear X HB R hb hs hle hX0 hX1 fX0 fX1 hS hP hQ hI; have X := nX; have R := nR; have HB := nB; clear nX nR nB; (try clear hX0 hX1 fX0 fX1); have hX0 := (blk_cell X.out 0).trans rfl; have hX1 := (blk_cell X.out 1).trans rfl; have fX0 := blk_frozen X.out 0; have fX1 := blk_frozen X.out 1)
        | (go_at_call 52; (with_reducible refine (patterns_any RQ.out HQ3.out HQ1.out hq2).mono ?_); rintro e w4 ⟨A7, c7, rfl, ho, hb⟩; have RO := Aside0.mk (Rd.of ho (by have h := HSS.out.2.1; rw [List.take_length] at h; rw [ints_length]; exact Nat.le_trans h (by decide))); have nB := Aside0.mk (below_step HB.out hb); clear HB hb ho; have HB := nB; clear nB))
      go_ret2
      exact ⟨_, rfl, RO.out, HB.out⟩
    · rw [decide_eq_false e8, if_neg (by decide)] at hr
      injection hr with hr1 hr2
      subst hr1
      subst hr2
      have hgt : ((8 : Int) < ((svG l own).quiet.length : Int)) = True := eq_true (by omega)
      go_wp2_with (first
        | (go_at_call 39; (with_reducible refine (isGraph_any own R.out HG.out).mono ?_); rintro e w2 ⟨rfl, hb⟩; have nX := Aside0.mk (blk_below X.out hb); have nR := Aside0.mk (R.out.below hb); have nB := Aside0.mk (below_step HB.out hb); clear X HB R hb hX0 hX1 fX0 fX1; have X := nX; have R := nR; have HB := nB; clear nX nR nB; (try clear hX0 hX1 fX0 fX1); have hX0 := (blk_cell X.out 0).trans rfl; have hX1 := (blk_cell X.out 1).trans rfl; have fX0 := blk_frozen X.out 0; have fX1 := blk_frozen X.out 1)
        | (go_at_call 40; (with_reducible refine (solverOf_any own R.out HGG.out).mono ?_); rintro e w3 ⟨bs, rfl, hle, hs, hb⟩; have hs2 : SvAt w3 bs (svG l own) := hs; obtain ⟨vp, vq, vi, hS, hP, hQ, hI⟩ := hs2; obtain ⟨Aq, cq, rfl⟩ := Kd.R_slice hQ; rw [ints_length] at hS hQ; have hS1 := (blk_cell hS 1).trans rfl; have nB := Aside0.mk (below_step HB.out hb); clear X HB R hb hs hle hX0 hX1 fX0 fX1 hS hP hQ hI; have HB := nB; clear nB))
      go_ret2
      exact ⟨_, rfl, hnil _, HB.out⟩

set_option maxRecDepth 100000 in
set_option maxHeartbeats 4000000 in
theorem ImageBasisR_any {W : World} {v : Value} {l : List Int} (own : Bool) {r : List Int} {b : Bool} (h : Rd W v l) (hr : ibR l own = (r, b)) :
    Calls Tryz.prog 9 #[.agg #[v, .bool own]] W fun e W' => ∃ u, e = .returned (.tuple #[u, .bool b]) ∧ Rd W' u r ∧ Below W.heap.size W W' := by
  have hu := Tryz.underlying26
  have hu2 := Tryz.underlying49
  obtain ⟨A, c, rfl⟩ := h.slice
  have HB := Aside0.mk (below_alloc (Below.refl W.heap.size W) (.cells #[.slice A l.length c, .bool own] 26 (0, 0)))
  have X := Aside0.mk (blk_new W (.cells #[.slice A l.length c, .bool own] 26 (0, 0)))
  have R := Aside0.mk (h.alloc (.cells #[.slice A l.length c, .bool own] 26 (0, 0)))
  have hnil : ∀ w, Rd w (.slice none 0 0) [] := fun w => Rd.of (Kd.R_nil (Kd.int .i64) 3 w 0 (fun _ => True)) (by simp)
  unfold ibR at hr
  obtain ⟨hb, hrr⟩ : good l = b ∧ (if b = true then ints (svG l own).image else []) = r := by
    cases e : good l
    · rw [e, if_neg (by decide)] at hr
      injection hr with h1 h2
      subst h2
      exact ⟨rfl, h1⟩
    · rw [e, if_pos rfl] at hr
      injection hr with h1 h2
      subst h2
      exact ⟨rfl, h1⟩
  have HG := Aside0.mk hb
  clear h hb hr
  go_enter Tryz.func9, Tryz.ntmps9
  go_upto_region 1 with (fail)
  generalize W.alloc (.cells #[.slice A l.length c, .bool own] 26 (0, 0)) = w1 at *
  (try clear hX0 hX1 fX0 fX1); have hX0 := (blk_cell X.out 0).trans rfl; have hX1 := (blk_cell X.out 1).trans rfl; have fX0 := blk_frozen X.out 0; have fX1 := blk_frozen X.out 1
  cases b
  · go_wp2_with (go_at_call 39; (with_reducible refine (isGraph_any own R.out HG.out).mono ?_); rintro e w2 ⟨rfl, hb⟩; have nB := Aside0.mk (below_step HB.out hb); clear X HB R hb hX0 hX1 fX0 fX1; have HB := nB; clear nB)
    go_ret2
    refine ⟨_, rfl, ?_, HB.out⟩
    rw [← hrr]
    exact hnil _
  · have hG := (good_iff l).1 HG.out
    have HGG := Aside0.mk hG
    have hql : (svG l own).image.length ≤ 16 := (image_small hG own).2.1
    clear hG
    go_wp2_with (first
      | (go_at_call 39; (with_reducible refine (isGraph_any own R.out HG.out).mono ?_); rintro e w2 ⟨rfl, hb⟩; have nX := Aside0.mk (blk_below X.out hb); have nR := Aside0.mk (R.out.below hb); have nB := Aside0.mk (below_step HB.out hb); clear X HB R hb hX0 hX1 fX0 fX1; have X := nX; have R := nR; have HB := nB; clear nX nR nB; (try clear hX0 hX1 fX0 fX1); have hX0 := (blk_cell X.out 0).trans rfl; have hX1 := (blk_cell X.out 1).trans rfl; have fX0 := blk_frozen X.out 0; have fX1 := blk_frozen X.out 1)
      | (go_at_call 40; (with_reducible refine (solverOf_any own R.out HGG.out).mono ?_); rintro e w3 ⟨bs, rfl, hle, hs, hb⟩; have hs2 : SvAt w3 bs (svG l own) := hs; obtain ⟨vp, vq, vi, hS, hP, hQ, hI⟩ := hs2; obtain ⟨Aq, cq, rfl⟩ := Kd.R_slice hI; have nB := Aside0.mk (below_step HB.out hb); have hS1 := (blk_cell hS 2).trans rfl; have RQ := Aside0.mk (Rd.of hI (by rw [ints_length]; omega)); clear X HB R hb hs hX0 hX1 fX0 fX1 hS hP hQ hI; have HB := nB; clear nB))
    go_ret2
    refine ⟨_, rfl, ?_, HB.out⟩
    rw [← hrr]
    exact RQ.out
set_option maxRecDepth 100000 in
set_option maxHeartbeats 4000000 in
theorem QuietBasisR_any {W : World} {v : Value} {l : List Int} (own : Bool) {r : List Int} {b : Bool} (h : Rd W v l) (hr : qbR l own = (r, b)) :
    Calls Tryz.prog 7 #[.agg #[v, .bool own]] W fun e W' => ∃ u, e = .returned (.tuple #[u, .bool b]) ∧ Rd W' u r ∧ Below W.heap.size W W' := by
  have hu := Tryz.underlying26
  have hu2 := Tryz.underlying49
  obtain ⟨A, c, rfl⟩ := h.slice
  have HB := Aside0.mk (below_alloc (Below.refl W.heap.size W) (.cells #[.slice A l.length c, .bool own] 26 (0, 0)))
  have X := Aside0.mk (blk_new W (.cells #[.slice A l.length c, .bool own] 26 (0, 0)))
  have R := Aside0.mk (h.alloc (.cells #[.slice A l.length c, .bool own] 26 (0, 0)))
  have hnil : ∀ w, Rd w (.slice none 0 0) [] := fun w => Rd.of (Kd.R_nil (Kd.int .i64) 3 w 0 (fun _ => True)) (by simp)
  unfold qbR at hr
  obtain ⟨hb, hrr⟩ : good l = b ∧ (if b = true then ints (svG l own).quiet else []) = r := by
    cases e : good l
    · rw [e, if_neg (by decide)] at hr
      injection hr with h1 h2
      subst h2
      exact ⟨rfl, h1⟩
    · rw [e, if_pos rfl] at hr
      injection hr with h1 h2
      subst h2
      exact ⟨rfl, h1⟩
  have HG := Aside0.mk hb
  clear h hb hr
  go_enter Tryz.func7, Tryz.ntmps7
  go_upto_region 1 with (fail)
  generalize W.alloc (.cells #[.slice A l.length c, .bool own] 26 (0, 0)) = w1 at *
  (try clear hX0 hX1 fX0 fX1); have hX0 := (blk_cell X.out 0).trans rfl; have hX1 := (blk_cell X.out 1).trans rfl; have fX0 := blk_frozen X.out 0; have fX1 := blk_frozen X.out 1
  cases b
  · go_wp2_with (go_at_call 39; (with_reducible refine (isGraph_any own R.out HG.out).mono ?_); rintro e w2 ⟨rfl, hb⟩; have nB := Aside0.mk (below_step HB.out hb); clear X HB R hb hX0 hX1 fX0 fX1; have HB := nB; clear nB)
    go_ret2
    refine ⟨_, rfl, ?_, HB.out⟩
    rw [← hrr]
    exact hnil _
  · have hG := (good_iff l).1 HG.out
    have HGG := Aside0.mk hG
    have hql : (svG l own).quiet.length ≤ 16 := (quiet_small hG own).2.1
    clear hG
    go_wp2_with (first
      | (go_at_call 39; (with_reducible refine (isGraph_any own R.out HG.out).mono ?_); rintro e w2 ⟨rfl, hb⟩; have nX := Aside0.mk (blk_below X.out hb); have nR := Aside0.mk (R.out.below hb); have nB := Aside0.mk (below_step HB.out hb); clear X HB R hb hX0 hX1 fX0 fX1; have X := nX; have R := nR; have HB := nB; clear nX nR nB; (try clear hX0 hX1 fX0 fX1); have hX0 := (blk_cell X.out 0).trans rfl; have hX1 := (blk_cell X.out 1).trans rfl; have fX0 := blk_frozen X.out 0; have fX1 := blk_frozen X.out 1)
      | (go_at_call 40; (with_reducible refine (solverOf_any own R.out HGG.out).mono ?_); rintro e w3 ⟨bs, rfl, hle, hs, hb⟩; have hs2 : SvAt w3 bs (svG l own) := hs; obtain ⟨vp, vq, vi, hS, hP, hQ, hI⟩ := hs2; obtain ⟨Aq, cq, rfl⟩ := Kd.R_slice hQ; have nB := Aside0.mk (below_step HB.out hb); have hS1 := (blk_cell hS 1).trans rfl; have RQ := Aside0.mk (Rd.of hQ (by rw [ints_length]; omega)); clear X HB R hb hs hX0 hX1 fX0 fX1 hS hP hQ hI; have HB := nB; clear nB))
    go_ret2
    refine ⟨_, rfl, ?_, HB.out⟩
    rw [← hrr]
    exact RQ.out
set_option maxRecDepth 100000 in
set_option maxHeartbeats 4000000 in
theorem RankOf_any {W : World} {v : Value} {l : List Int} (own : Bool) {b : Bool} {x : Int} (h : Rd W v l) (hb : good l = b) (hx : (if b = true then ((svOf (togs l own)).image.length : Int) else 0) = x) :
    Calls Tryz.prog 11 #[.agg #[v, .bool own]] W fun e W' => e = .returned (.tuple #[.int .i64 x, .bool b]) ∧ Below W.heap.size W W' := by
  have hu := Tryz.underlying26
  have hu2 := Tryz.underlying49
  obtain ⟨A, c, rfl⟩ := h.slice
  have HB := Aside0.mk (below_alloc (Below.refl W.heap.size W) (.cells #[.slice A l.length c, .bool own] 26 (0, 0)))
  have X := Aside0.mk (blk_new W (.cells #[.slice A l.length c, .bool own] 26 (0, 0)))
  have R := Aside0.mk (h.alloc (.cells #[.slice A l.length c, .bool own] 26 (0, 0)))
  have HG := Aside0.mk hb
  clear h hb
  go_enter Tryz.func11, Tryz.ntmps11
  go_upto_region 1 with (fail)
  generalize W.alloc (.cells #[.slice A l.length c, .bool own] 26 (0, 0)) = w1 at *
  (try clear hX0 hX1 fX0 fX1); have hX0 := (blk_cell X.out 0).trans rfl; have hX1 := (blk_cell X.out 1).trans rfl; have fX0 := blk_frozen X.out 0; have fX1 := blk_frozen X.out 1
  cases b
  · simp only [Bool.false_eq_true, if_false] at hx
    subst hx
    go_wp2_with (go_at_call 39; (with_reducible refine (isGraph_any own R.out HG.out).mono ?_); rintro e w2 ⟨rfl, hb⟩; have nB := Aside0.mk (below_step HB.out hb); clear X HB R hb hX0 hX1 fX0 fX1; have HB := nB; clear nB)
    go_ret2
    exact ⟨rfl, HB.out⟩
  · simp only [if_true] at hx
    have hG := (good_iff l).1 HG.out
    have HGG := Aside0.mk hG
    clear hG
    go_wp2_with (first
      | (go_at_call 39; (with_reducible refine (isGraph_any own R.out HG.out).mono ?_); rintro e w2 ⟨rfl, hb⟩; have nX := Aside0.mk (blk_below X.out hb); have nR := Aside0.mk (R.out.below hb); have nB := Aside0.mk (below_step HB.out hb); clear X HB R hb hX0 hX1 fX0 fX1; have X := nX; have R := nR; have HB := nB; clear nX nR nB; (try clear hX0 hX1 fX0 fX1); have hX0 := (blk_cell X.out 0).trans rfl; have hX1 := (blk_cell X.out 1).trans rfl; have fX0 := blk_frozen X.out 0; have fX1 := blk_frozen X.out 1)
      | (go_at_call 40; (with_reducible refine (solverOf_any own R.out HGG.out).mono ?_); rintro e w3 ⟨bs, rfl, hle, hs, hb⟩; obtain ⟨vp, vq, vi, hS, hP, hQ, hI⟩ := hs; obtain ⟨Aq, cq, rfl⟩ := Kd.R_slice hI; have nB := Aside0.mk (below_step HB.out hb); have hS1 := (blk_cell hS 2).trans rfl; rw [ints_length] at hS1; clear X HB R hb hX0 hX1 fX0 fX1 hS hP hQ hI; have HB := nB; clear nB))
    go_ret2
    exact ⟨by first | rfl | rw [hx], HB.out⟩
set_option maxRecDepth 100000 in
set_option maxHeartbeats 4000000 in
theorem CountSolvable_any {W : World} {v : Value} {l : List Int} (own : Bool) {b : Bool} {x : Int} (h : Rd W v l) (hb : good l = b) (hx : (if b = true then ((2 ^ (svOf (togs l own)).image.length : Nat) : Int) else 0) = x) :
    Calls Tryz.prog 13 #[.agg #[v, .bool own]] W fun e W' => e = .returned (.tuple #[.int .i64 x, .bool b]) ∧ Below W.heap.size W W' := by
  have hu := Tryz.underlying26
  have hu2 := Tryz.underlying49
  obtain ⟨A, c, rfl⟩ := h.slice
  have HB := Aside0.mk (below_alloc (Below.refl W.heap.size W) (.cells #[.slice A l.length c, .bool own] 26 (0, 0)))
  have X := Aside0.mk (blk_new W (.cells #[.slice A l.length c, .bool own] 26 (0, 0)))
  have R := Aside0.mk (h.alloc (.cells #[.slice A l.length c, .bool own] 26 (0, 0)))
  have HG := Aside0.mk hb
  clear h hb
  go_enter Tryz.func13, Tryz.ntmps13
  go_upto_region 1 with (fail)
  generalize W.alloc (.cells #[.slice A l.length c, .bool own] 26 (0, 0)) = w1 at *
  (try clear hX0 hX1 fX0 fX1); have hX0 := (blk_cell X.out 0).trans rfl; have hX1 := (blk_cell X.out 1).trans rfl; have fX0 := blk_frozen X.out 0; have fX1 := blk_frozen X.out 1
  cases b
  · simp only [Bool.false_eq_true, if_false] at hx
    subst hx
    go_wp2_with (go_at_call 39; (with_reducible refine (isGraph_any own R.out HG.out).mono ?_); rintro e w2 ⟨rfl, hb⟩; have nB := Aside0.mk (below_step HB.out hb); clear X HB R hb hX0 hX1 fX0 fX1; have HB := nB; clear nB)
    go_ret2
    exact ⟨rfl, HB.out⟩
  · simp only [if_true] at hx
    have hil : (svOf (togs l own)).image.length ≤ 16 := (image_small ((good_iff l).1 HG.out) own).2.1
    have hsh : wrap64 (2 ^ (svOf (togs l own)).image.length) = ((2 ^ (svOf (togs l own)).image.length : Nat) : Int) := by
      have h2 : (2 : Nat) ^ (svOf (togs l own)).image.length ≤ 2 ^ 16 := Nat.pow_le_pow_right (by decide) hil
      rw [← pow_cast]
      generalize 2 ^ (svOf (togs l own)).image.length = m at h2 ⊢
      exact wrap_id (by omega) (by omega)
    have hG := (good_iff l).1 HG.out
    have HGG := Aside0.mk hG
    clear hG
    go_wp2_with (first
      | (go_at_call 39; (with_reducible refine (isGraph_any own R.out HG.out).mono ?_); rintro e w2 ⟨rfl, hb⟩; have nX := Aside0.mk (blk_below X.out hb); have nR := Aside0.mk (R.out.below hb); have nB := Aside0.mk (below_step HB.out hb); clear X HB R hb hX0 hX1 fX0 fX1; have X := nX; have R := nR; have HB := nB; clear nX nR nB; (try clear hX0 hX1 fX0 fX1); have hX0 := (blk_cell X.out 0).trans rfl; have hX1 := (blk_cell X.out 1).trans rfl; have fX0 := blk_frozen X.out 0; have fX1 := blk_frozen X.out 1)
      | (go_at_call 40; (with_reducible refine (solverOf_any own R.out HGG.out).mono ?_); rintro e w3 ⟨bs, rfl, hle, hs, hb⟩; obtain ⟨vp, vq, vi, hS, hP, hQ, hI⟩ := hs; obtain ⟨Aq, cq, rfl⟩ := Kd.R_slice hI; have nB := Aside0.mk (below_step HB.out hb); have hS1 := (blk_cell hS 2).trans rfl; rw [ints_length] at hS1; clear X HB R hb hX0 hX1 fX0 fX1 hS hP hQ hI; have HB := nB; clear nB))
    go_ret2
    exact ⟨by first | rfl | rw [hx] | (show Ending.returned (.tuple #[.int .i64 (wrap64 (2 ^ (svOf (togs l own)).image.length)), .bool true]) = _; rw [hsh, hx]), HB.out⟩

end Go.Proofs.YtjoeakahfomckaaGreat.Draw
