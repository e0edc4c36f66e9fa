-- Written by a program of this session (wip/tools/mp.py) around the kit's printer; Lean checks it.
import Derived.Test.YtjocpjjimhefjaaGreatPFnFormStaysx0
import Derived.Test.YtjocpjjimhefjaaGreatPFnFormStaysx3
import Derived.Test.YtjocpjjimhefjaaGreatPFnFormStaysx5
import Derived.Carry
namespace Go.Proofs.YtjocpjjimhefjaaGreat.PFnFormStays
open Go.RowKit Go.Proofs.YtjocpjjimhefjaaGreatW.PrintWords Go.Proofs.YtjocpjjimhefjaaGreatW.PrintLast Go.Proofs.YtjocpjjimhefjaaGreatW.PrintMore
attribute [local go_sem] max2_int min2_int max_two min_two max_three min_three max_four min_four   -- for this text's walks alone
set_option linter.unusedVariables false
set_option linter.unusedSimpArgs false
-- MANUAL
def impl_FormOfLights.go (k : Nat) (l : List Int) (own : Bool) (a1 : Int) : Nat → Nat → Bool → Bool → Option (Bool × Bool)
  | 0, _, m0, m1 => some (m0, m1)
  | d + 1, i, m0, m1 => (impl_Graph_effect.f k l false (i : Int)).bind fun e => if e = a1 then ((impl_Graph_form.f k l own (i : Int)).bind fun g => if g = 0 then impl_FormOfLights.go k l own a1 d (i + 1) true m1 else if g = 1 then impl_FormOfLights.go k l own a1 d (i + 1) m0 true else none) else impl_FormOfLights.go k l own a1 d (i + 1) m0 m1
def impl_FormOfLights.f (k : Nat) (l0_0 : List Int) (a0_1 : Bool) (a1 : Int) : Option (Int × Bool) := (impl_isLit.f k l0_0 a0_1 [a1]).bind fun t => if t = true then (if l0_0.length ≤ 9 then ((impl_FormOfLights.go k l0_0 a0_1 a1 (2 ^ l0_0.length) 0 false false).bind fun m => some (if m.1 = m.2 then (0, false) else if m.2 = true then (1, true) else (0, true))) else none) else some (0, false)
set_option maxRecDepth 100000 in
set_option maxHeartbeats 4000000 in
theorem impl_FormOfLights.calls (k : Nat) (A0_0 : Option Addr) (c0_0 : Nat) (l0_0 : List Int) (a0_1 : Bool) (a1 : Int) (r1 : Int) (r2 : Bool) (w : World) (hr0_0 : Kd.C (Kd.int .i64) w A0_0 l0_0.length l0_0) (hc0_0 : l0_0.length ≤ c0_0) (h : impl_FormOfLights.f k l0_0 a0_1 a1 = some (r1, r2)) :
    Calls Tryz.prog 24 #[.agg #[.slice A0_0 l0_0.length c0_0, .bool a0_1], .int .i64 a1] w fun e w' => e = .returned (.tuple #[.int .i64 r1, .bool r2]) ∧ Below w.heap.size w w' := by
  have hu28 := Tryz.underlying26
  have hu71 := Tryz.underlying66
  have hM := Kd.C_max hr0_0
  unfold impl_FormOfLights.f at h
  obtain ⟨t, ht, h⟩ := Option.bind_eq_some_iff.1 h
  have HT := Aside0.mk ht
  have HR := Aside0.mk hr0_0
  have HC := Aside0.mk hc0_0
  have HH := Aside0.mk h
  clear hr0_0 hc0_0 h ht
  cases t
  case false =>
    go_enter Tryz.func24, Tryz.ntmps24
    go_wp2_with (first
      | ((with_reducible refine gate_dst (N := 2) rfl ?_); refine box_event ?hg (N := 2) ?hd (cs := #[.slice A0_0 l0_0.length c0_0, .bool a0_1]) (t := 26) ?hr ?_; (case hd => rfl); (case hg => rfl); (case hr => first | (go_simp; done) | (go_simp; rfl)); intro gb hgb w10 hbox hb; have BK := Aside0.mk hbox; have HB0 := Aside0.mk hb; clear hgb; have hgl : gb < w10.heap.size := blk_lt BK.out; have hx0 : w10.cell? ⟨gb, 0, none⟩ = some (.slice A0_0 l0_0.length c0_0) := (blk_cell BK.out 0).trans rfl; have hx1 : w10.cell? ⟨gb, 1, none⟩ = some (.bool a0_1) := (blk_cell BK.out 1).trans rfl; clear hbox hb)
      | ((with_reducible refine gate_dst (N := 11) rfl ?_); refine Kd.R_lit (Kd.int .i64) _ 3 ?hg (N := 11) ?hd (xs := ([a1] : List Int)) (inner := [.int .i64 a1]) (ok := fun _ => True) (okp := fun _ => True) ?hr ?hp (fun _ hk => hk) trivial (Below.refl _ _) (Nat.le_refl _) (by simp) ?_; (case hd => rfl); (case hg => rfl); (case hr => first | (go_simp; done) | (go_simp; rfl)); (case hp => exact (Reps.one (show Kd.M (Kd.int .i64) _ _ _ a1 [.int .i64 a1] from rfl) (Reps.none _ _))); intro v1 w3 ho3 hb3 hg3 hnew3; obtain ⟨A3, c3, rfl, hl3, hC3⟩ := Kd.R_reads ho3; have HB3 := Aside0.mk hb3; have HC3 := Aside0.mk hC3; have HL3 := Aside0.mk hl3; clear ho3 hb3 hg3 hnew3 hC3 hl3)
      | (go_at_call 33; refine (impl_isLit.calls k A0_0 c0_0 l0_0 a0_1 A3 c3 [a1] _ w3 (Kd.C_below HR.out (below_step HB0.out HB3.out)) HC.out HC3.out HL3.out HT.out).mono ?_; rintro e w5 ⟨rfl, hb5⟩; have HB5 := Aside0.mk (below_step HB3.out hb5); clear hb5; have hy0 : w5.cell? ⟨gb, 0, none⟩ = some (.slice A0_0 l0_0.length c0_0) := (HB5.out.cell (p := ⟨gb, 0, none⟩) hgl).trans hx0; have hy1 : w5.cell? ⟨gb, 1, none⟩ = some (.bool a0_1) := (HB5.out.cell (p := ⟨gb, 1, none⟩) hgl).trans hx1; clear hx0 hx1))
    have H := HH.out
    simp only [Bool.false_eq_true, if_false, Option.some.injEq, Prod.mk.injEq] at H
    obtain ⟨rfl, rfl⟩ := H
    go_ret2
    exact ⟨rfl, below_step HB0.out HB5.out⟩
  case true =>
    have H := HH.out
    simp only [if_true] at H
    split at H
    case isFalse => cases H
    next hle =>
    obtain ⟨M, hM1, H2⟩ := Option.bind_eq_some_iff.1 H
    have key : ∀ n : Fin 10, shl .i64 1 ((n.val : Nat) : Int) = ((2 ^ n.val : Nat) : Int) ∧ 2 ^ n.val ≤ 512 := by decide
    have hsh := key ⟨l0_0.length, by omega⟩
    clear key
    simp only [] at hsh
    obtain ⟨P, hP⟩ : ∃ P : Nat, 2 ^ l0_0.length = P := ⟨_, rfl⟩
    rw [hP] at hM1 hsh
    obtain ⟨hji, hP9⟩ := hsh
    clear hP
    have hji_ : (IntKind.i64.wrap (1 * 2 ^ min (l0_0.length : Int).toNat 64)) = (P : Int) := hji
    have hjiz : (l0_0.length : Int) ≤ 64 → (IntKind.i64.wrap (1 * 2 ^ (l0_0.length : Int).toNat)) = (P : Int) := shl_small hji
    have hjip : (IntKind.i64.wrap (1 * 2 ^ min l0_0.length 64)) = (P : Int) := hji_
    have hjiq : (l0_0.length : Int) ≤ 64 → (IntKind.i64.wrap (1 * 2 ^ l0_0.length)) = (P : Int) := hjiz
    have hjir : (IntKind.i64.wrap (2 ^ min l0_0.length 64)) = (P : Int) := by have h_ := hjip; rw [Int.one_mul] at h_; exact h_
    have hjis : (l0_0.length : Int) ≤ 64 → (IntKind.i64.wrap (2 ^ l0_0.length)) = (P : Int) := fun hle_ => by have h_ := hjiq hle_; rw [Int.one_mul] at h_; exact h_
    have hjiu : (IntKind.i64.wrap (2 ^ min (l0_0.length : Int).toNat 64)) = (P : Int) := by have h_ := hji_; rw [Int.one_mul] at h_; exact h_
    have hjiv : (l0_0.length : Int) ≤ 64 → (IntKind.i64.wrap (2 ^ (l0_0.length : Int).toNat)) = (P : Int) := fun hle_ => by have h_ := hjiz hle_; rw [Int.one_mul] at h_; exact h_
    have hjiy : (wrap64 (1 * 2 ^ min (l0_0.length : Int).toNat 64)) = (P : Int) := (i64_w _).symm.trans hji_
    have hjix : (l0_0.length : Int) ≤ 64 → (wrap64 (1 * 2 ^ (l0_0.length : Int).toNat)) = (P : Int) := fun h_ => (i64_w _).symm.trans (hjiz h_)
    have hjit : wrap64 (2 ^ l0_0.length) = (P : Int) := (i64_w _).symm.trans (hjis (by omega))
    have hjiw : IntKind.i64.wrap (2 ^ l0_0.length) = (P : Int) := hjis (by omega)
    have HH1 := Aside0.mk hM1
    have HH2 := Aside0.mk (Option.some.inj H2)
    clear H hM1 H2 HH
    go_enter Tryz.func24, Tryz.ntmps24
    go_wp2_with (first
      | ((with_reducible refine gate_dst (N := 2) rfl ?_); refine box_event ?hg (N := 2) ?hd (cs := #[.slice A0_0 l0_0.length c0_0, .bool a0_1]) (t := 26) ?hr ?_; (case hd => rfl); (case hg => rfl); (case hr => first | (go_simp; done) | (go_simp; rfl)); intro gb hgb w10 hbox hb; have BK := Aside0.mk hbox; have HB0 := Aside0.mk hb; clear hgb; have hgl : gb < w10.heap.size := blk_lt BK.out; have hx0 : w10.cell? ⟨gb, 0, none⟩ = some (.slice A0_0 l0_0.length c0_0) := (blk_cell BK.out 0).trans rfl; have hx1 : w10.cell? ⟨gb, 1, none⟩ = some (.bool a0_1) := (blk_cell BK.out 1).trans rfl; clear hbox hb)
      | ((with_reducible refine gate_dst (N := 11) rfl ?_); refine Kd.R_lit (Kd.int .i64) _ 3 ?hg (N := 11) ?hd (xs := ([a1] : List Int)) (inner := [.int .i64 a1]) (ok := fun _ => True) (okp := fun _ => True) ?hr ?hp (fun _ hk => hk) trivial (Below.refl _ _) (Nat.le_refl _) (by simp) ?_; (case hd => rfl); (case hg => rfl); (case hr => first | (go_simp; done) | (go_simp; rfl)); (case hp => exact (Reps.one (show Kd.M (Kd.int .i64) _ _ _ a1 [.int .i64 a1] from rfl) (Reps.none _ _))); intro v1 w3 ho3 hb3 hg3 hnew3; obtain ⟨A3, c3, rfl, hl3, hC3⟩ := Kd.R_reads ho3; have HB3 := Aside0.mk hb3; have HC3 := Aside0.mk hC3; have HL3 := Aside0.mk hl3; clear ho3 hb3 hg3 hnew3 hC3 hl3)
      | (go_at_call 33; refine (impl_isLit.calls k A0_0 c0_0 l0_0 a0_1 A3 c3 [a1] _ w3 (Kd.C_below HR.out (below_step HB0.out HB3.out)) HC.out HC3.out HL3.out HT.out).mono ?_; rintro e w5 ⟨rfl, hb5⟩; have HB5 := Aside0.mk (below_step HB3.out hb5); clear hb5; have hy0 : w5.cell? ⟨gb, 0, none⟩ = some (.slice A0_0 l0_0.length c0_0) := (HB5.out.cell (p := ⟨gb, 0, none⟩) hgl).trans hx0; have hy1 : w5.cell? ⟨gb, 1, none⟩ = some (.bool a0_1) := (HB5.out.cell (p := ⟨gb, 1, none⟩) hgl).trans hx1; have hz0 : ((w5.alloc (.cells #[.slice A0_0 l0_0.length c0_0, .bool false] 26)).alloc (.cells #[.bool false, .bool false] 66)).cell? ⟨gb, 0, none⟩ = some (.slice A0_0 l0_0.length c0_0) := pw_cell_below (below_alloc (below_alloc (Below.refl w5.heap.size w5) _) _) hy0; clear hx0 hx1))
    have hgl2 : gb < w5.heap.size := by have := HB5.out.size; omega
    go_loopg [22] P (fun d v22 wr => ∃ (i : Nat) (m0 m1 : Bool), v22 = .int .i64 i ∧ Aside0 (i + d = P) ∧ Aside0 (impl_FormOfLights.go k l0_0 a0_1 a1 d i m0 m1 = some M) ∧ Aside0 (wr.heap[w5.heap.size]? = some (.cells #[.slice A0_0 l0_0.length c0_0, .bool false] 26 (0, 0))) ∧ Aside0 (wr.heap[w5.heap.size + 1]? = some (.cells #[.bool m0, .bool m1] 66 (0, 0))) ∧ Aside0 (Below w10.heap.size w10 wr))
    case atStart => exact ⟨0, false, false, rfl, ⟨by omega⟩, HH1, ⟨blk_alloc (blk_new _ _) _⟩, ⟨by have := blk_new (w5.alloc (.cells #[.slice A0_0 l0_0.length c0_0, .bool false] 26)) (.cells #[.bool false, .bool false] 66); rwa [World.size_alloc] at this⟩, ⟨below_alloc (below_alloc HB5.out _) _⟩⟩
    case round =>
      clear HH1 hy0 hy1 hz0
      obtain ⟨i, m0, m1, rfl, HD, HA, HP, HM, HB⟩ := hrel
      cases gk with
      | zero =>
        have hge : ¬ (i < P) := by have := HD.out; omega
        have e1 : (m0, m1) = M := by have := HA.out; simpa [impl_FormOfLights.go] using this
        subst e1
        have H := HH2.out
        have hm0 : wr.cell? ⟨w5.heap.size + 1, 0, none⟩ = some (.bool m0) := (blk_cell HM.out 0).trans rfl
        have hm1 : wr.cell? ⟨w5.heap.size + 1, 1, none⟩ = some (.bool m1) := (blk_cell HM.out 1).trans rfl
        clear HA HH2
        cases m0 <;> cases m1
        all_goals
          simp at H
          obtain ⟨rfl, rfl⟩ := H
          go_wp2
          go_ret2
          exact ⟨rfl, below_step HB0.out HB.out⟩
      | succ d =>
        have hlt : i < P := by have := HD.out; omega
        have H := HA.out
        clear HA
        unfold impl_FormOfLights.go at H
        obtain ⟨e, he, H⟩ := Option.bind_eq_some_iff.1 H
        have HE := Aside0.mk he
        have hx0 : wr.cell? ⟨gb, 0, none⟩ = some (.slice A0_0 l0_0.length c0_0) := (HB.out.cell (p := ⟨gb, 0, none⟩) hgl).trans ((blk_cell BK.out 0).trans rfl)
        have hx1 : wr.cell? ⟨gb, 1, none⟩ = some (.bool a0_1) := (HB.out.cell (p := ⟨gb, 1, none⟩) hgl).trans ((blk_cell BK.out 1).trans rfl)
        have hp0 : wr.cell? ⟨w5.heap.size, 0, none⟩ = some (.slice A0_0 l0_0.length c0_0) := (blk_cell HP.out 0).trans rfl
        have hp1 : wr.cell? ⟨w5.heap.size, 1, none⟩ = some (.bool false) := (blk_cell HP.out 1).trans rfl
        clear he
        go_wp2_with fail
        refine (impl_Graph_effect.calls k A0_0 c0_0 l0_0 false (i : Int) e wr (Kd.C_below HR.out (below_step HB0.out HB.out)) HC.out HE.out).mono ?_
        rintro e8 w8 ⟨rfl, hb8⟩
        have HP8 := Aside0.mk (blk_below HP.out hb8)
        have HM8 := Aside0.mk (blk_below HM.out hb8)
        have HB8 := Aside0.mk (below_step HB.out hb8)
        have hy0 : w8.cell? ⟨gb, 0, none⟩ = some (.slice A0_0 l0_0.length c0_0) := pw_cell_below hb8 hx0
        have hy1 : w8.cell? ⟨gb, 1, none⟩ = some (.bool a0_1) := pw_cell_below hb8 hx1
        clear hb8 HP HM HB hx0 hx1 hp0 hp1
        by_cases c : e = a1
        · subst c
          rw [if_pos rfl] at H
          obtain ⟨g, hg, H⟩ := Option.bind_eq_some_iff.1 H
          have HG := Aside0.mk hg
          clear hg
          go_wp2_with fail
          refine (impl_Graph_form.calls k A0_0 c0_0 l0_0 a0_1 (i : Int) g w8 (Kd.C_below HR.out (below_step HB0.out HB8.out)) HC.out HG.out).mono ?_
          rintro e9 w9 ⟨rfl, hb9⟩
          have HP9 := Aside0.mk (blk_below HP8.out hb9)
          have HM9 := Aside0.mk (blk_below HM8.out hb9)
          have HB9 := Aside0.mk (below_step HB8.out hb9)
          have hf0 : w9.frozen? ⟨w5.heap.size + 1, 0, none⟩ = false := blk_frozen HM9.out 0
          have hf1 : w9.frozen? ⟨w5.heap.size + 1, 1, none⟩ = false := blk_frozen HM9.out 1
          have hm0 : w9.cell? ⟨w5.heap.size + 1, 0, none⟩ = some (.bool m0) := (blk_cell HM9.out 0).trans rfl
          have hm1 : w9.cell? ⟨w5.heap.size + 1, 1, none⟩ = some (.bool m1) := (blk_cell HM9.out 1).trans rfl
          have hbm : w10.heap.size ≤ w5.heap.size + 1 := by have := HB5.out.size; omega
          clear hb9 HP8 HM8 HB8 hy0 hy1
          by_cases c0 : g = 0
          · subst c0
            rw [if_pos rfl] at H
            have HH := Aside0.mk H
            clear H
            go_wp2
            go_roundg d
            case measure => omega
            case rel => exact ⟨i + 1, true, m1, by go_num, ⟨by have := HD.out; omega⟩, HH, ⟨blk_far HP9.out (by simp) _⟩, ⟨blk_put HM9.out 0 _ rfl⟩, ⟨below_set HB9.out hbm⟩⟩
          · rw [if_neg c0] at H
            by_cases c1 : g = 1
            · subst c1
              rw [if_pos rfl] at H
              have HH := Aside0.mk H
              clear H c0
              go_wp2
              go_roundg d
              case measure => omega
              case rel => exact ⟨i + 1, m0, true, by go_num, ⟨by have := HD.out; omega⟩, HH, ⟨blk_far HP9.out (by simp) _⟩, ⟨blk_put HM9.out 1 _ rfl⟩, ⟨below_set HB9.out hbm⟩⟩
            · rw [if_neg c1] at H
              cases H
        · rw [if_neg c] at H
          have HH := Aside0.mk H
          have cb : (e == a1) = false := beq_eq_false_iff_ne.2 c
          clear H c
          go_wp2
          go_roundg d
          case measure => omega
          case rel => exact ⟨i + 1, m0, m1, by go_num, ⟨by have := HD.out; omega⟩, HH, HP8, HM8, HB8⟩
end Go.Proofs.YtjocpjjimhefjaaGreat.PFnFormStays
