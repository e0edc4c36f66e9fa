-- Written by a program of this session (wip/tools/mp.py) around the kit's printer; Lean checks it.
import Derived.Test.YtjocpjjimhefjaaGreatPFnFormStaysx0
import Derived.Test.YtjocpjjimhefjaaGreatPFnFormStaysx3
import Derived.Test.YtjocpjjimhefjaaGreatPFnFormStaysx7
import Derived.Test.YtjocpjjimhefjaaGreatPFnFormStaysx10
namespace Go.Proofs.YtjocpjjimhefjaaGreat.PFnFormStays
open Go.RowKit Go.Proofs.YtjocpjjimhefjaaGreatW.PrintWords Go.Proofs.YtjocpjjimhefjaaGreatW.PrintLast Go.Proofs.YtjocpjjimhefjaaGreatW.PrintMore
attribute [local go_sem] max2_int min2_int max_two min_two max_three min_three max_four min_four   -- for this text's walks alone
set_option linter.unusedVariables false
set_option linter.unusedSimpArgs false
-- MANUAL
def impl_ReachOf.f (k : Nat) (l0_0 : List Int) (a0_1 : Bool) (a1 : Int) : Option (List Int × Bool) := (impl_isLit.f k l0_0 a0_1 [a1]).bind fun t => if t = true then ((impl_Graph_orbit.f k (fun s i => impl_Graph_litMove.f l0_0 a0_1 s i) l0_0 a1).bind fun o => some (o, true)) else some ([], false)
theorem impl_ReachOf.move (A0_0 : Option Addr) (c0_0 : Nat) (l0_0 : List Int) (a0_1 : Bool) (w : World) (hr : Kd.C (Kd.int .i64) w A0_0 l0_0.length l0_0) (hc : l0_0.length ≤ c0_0) :
    MoveAt 55 #[.agg #[.slice A0_0 l0_0.length c0_0, .bool a0_1]] (fun s i => impl_Graph_litMove.f l0_0 a0_1 s i) w := fun W hW s i r h => by
  have hc := impl_Graph_litMove.calls A0_0 c0_0 l0_0 a0_1 s i r W (Kd.C_below hr hW) hc h
  simpa using hc
set_option maxRecDepth 100000 in
set_option maxHeartbeats 4000000 in
theorem impl_ReachOf.calls (k : Nat) (A0_0 : Option Addr) (c0_0 : Nat) (l0_0 : List Int) (a0_1 : Bool) (a1 : Int) (r1 : List Int) (r2 : Bool) (w : World) (hr0_0 : Kd.C (Kd.int .i64) w A0_0 l0_0.length l0_0) (hc0_0 : l0_0.length ≤ c0_0) (h : impl_ReachOf.f k l0_0 a0_1 a1 = some (r1, r2)) :
    Calls Tryz.prog 28 #[.agg #[.slice A0_0 l0_0.length c0_0, .bool a0_1], .int .i64 a1] w fun e w' => ∃ v0_ : Value, e = .returned (.tuple #[v0_, .bool r2]) ∧ Kd.R (Kd.int .i64) 3 w' w.heap.size (fun _ => True) v0_ r1 ∧ Below w.heap.size w w' := by
  have hu28 := Tryz.underlying26
  unfold impl_ReachOf.f at h
  obtain ⟨t, ht, h⟩ := Option.bind_eq_some_iff.1 h
  have HT := Aside0.mk ht
  have HR := Aside0.mk hr0_0
  have HC := Aside0.mk hc0_0
  have HH := Aside0.mk h
  clear hr0_0 hc0_0 h ht
  cases t
  all_goals
    go_enter Tryz.func28, Tryz.ntmps28
    go_wp2_with (first
      | ((with_reducible refine gate_dst (N := 2) rfl ?_); refine box_event ?hg (N := 2) ?hd (cs := #[.slice A0_0 l0_0.length c0_0, .bool a0_1]) (t := 26) ?hr ?_; (case hd => rfl); (case hg => rfl); (case hr => first | (go_simp; done) | (go_simp; rfl)); intro gb hgb w10 hbox hb; have BK := Aside0.mk hbox; have HB0 := Aside0.mk hb; clear hgb; have hgl : gb < w10.heap.size := blk_lt BK.out; have hx0 : w10.cell? ⟨gb, 0, none⟩ = some (.slice A0_0 l0_0.length c0_0) := (blk_cell BK.out 0).trans rfl; have hx1 : w10.cell? ⟨gb, 1, none⟩ = some (.bool a0_1) := (blk_cell BK.out 1).trans rfl; clear hbox hb)
      | ((with_reducible refine gate_dst (N := 8) rfl ?_); refine Kd.R_lit (Kd.int .i64) _ 3 ?hg (N := 8) ?hd (xs := ([a1] : List Int)) (inner := [.int .i64 a1]) (ok := fun _ => True) (okp := fun _ => True) ?hr ?hp (fun _ hk => hk) trivial (Below.refl _ _) (Nat.le_refl _) (by simp) ?_; (case hd => rfl); (case hg => rfl); (case hr => first | (go_simp; done) | (go_simp; rfl)); (case hp => exact (Reps.one (show Kd.M (Kd.int .i64) _ _ _ a1 [.int .i64 a1] from rfl) (Reps.none _ _))); intro v1 w3 ho3 hb3 hg3 hnew3; obtain ⟨A3, c3, rfl, hl3, hC3⟩ := Kd.R_reads ho3; have HB3 := Aside0.mk hb3; have HC3 := Aside0.mk hC3; have HL3 := Aside0.mk hl3; clear ho3 hb3 hg3 hnew3 hC3 hl3)
      | (go_at_call 33; refine (impl_isLit.calls k A0_0 c0_0 l0_0 a0_1 A3 c3 [a1] _ w3 (Kd.C_below HR.out (below_step HB0.out HB3.out)) HC.out HC3.out HL3.out HT.out).mono ?_; rintro e w5 ⟨rfl, hb5⟩; have HB5 := Aside0.mk (below_step HB3.out hb5); clear hb5; have hy0 : w5.cell? ⟨gb, 0, none⟩ = some (.slice A0_0 l0_0.length c0_0) := (HB5.out.cell (p := ⟨gb, 0, none⟩) hgl).trans hx0; have hy1 : w5.cell? ⟨gb, 1, none⟩ = some (.bool a0_1) := (HB5.out.cell (p := ⟨gb, 1, none⟩) hgl).trans hx1; clear hx0 hx1))
  · have H := HH.out
    simp only [Bool.false_eq_true, if_false, Option.some.injEq, Prod.mk.injEq] at H
    obtain ⟨rfl, rfl⟩ := H
    go_ret2
    exact ⟨_, rfl, Kd.R_nil _ _ _ _ _, below_step HB0.out HB5.out⟩
  · have H := HH.out
    simp only [if_true] at H
    obtain ⟨o, ho, H⟩ := Option.bind_eq_some_iff.1 H
    simp only [Option.some.injEq, Prod.mk.injEq] at H
    obtain ⟨rfl, rfl⟩ := H
    have hB := below_step HB0.out HB5.out
    have hr5 := Kd.C_below HR.out hB
    refine (impl_Graph_orbit.calls k 55 _ _ (Go.Proofs.enters_of Tryz.func55 (by kernel_rfl) rfl) A0_0 c0_0 l0_0 a0_1 a1 o w5 (impl_ReachOf.move A0_0 c0_0 l0_0 a0_1 w5 hr5 HC.out) hr5 ho).mono ?_
    rintro e w6 ⟨v6, rfl, hr6, hb6⟩
    have HO6 := Aside0.mk (Kd.R_lower hr6 hB.size)
    have HB6 := Aside0.mk (below_step hB hb6)
    clear hr6 hb6 hB hr5 ho hy0 hy1
    go_wp2
    go_ret2
    exact ⟨_, rfl, HO6.out, HB6.out⟩
end Go.Proofs.YtjocpjjimhefjaaGreat.PFnFormStays
