-- Written by a program of this session (wip/tools/mp.py) around the kit's printer; Lean checks it.
import Derived.Test.YtjkijnggjjoheaaPFnLitOrbitsx0
import Derived.Test.YtjkijnggjjoheaaPFnLitOrbitsx4
import Derived.Test.YtjkijnggjjoheaaPFnLitOrbitsx5
namespace Go.Proofs.Ytjkijnggjjoheaa.PFnLitOrbits
open Go.RowKit Go.Proofs.YtjkijnggjjoheaaW.PrintWords Go.Proofs.YtjkijnggjjoheaaW.PrintLast Go.Proofs.YtjkijnggjjoheaaW.PrintMore
attribute [local go_sem] max2_int min2_int max_two min_two max_three min_three max_four min_four   -- for this text's walks alone
set_option linter.unusedVariables false
set_option linter.unusedSimpArgs false

/-! ### impl_Graph_orbits: function 36 -/
-- MANUAL
def impl_Graph_orbits.go (k : Nat) (l : List Int) (own : Bool) : Nat → Nat → List (List Int) → List Int → Option (List (List Int))
  | 0, _, out, _ => some out
  | d + 1, s, out, met => if met.contains (s : Int) = true then impl_Graph_orbits.go k l own d (s + 1) out met else
    (impl_Graph_orbit.f k (fun s i => impl_Graph_litMove.f l own s i) l (s : Int)).bind fun o => if (o.all fun x => (Lit.int .i64 x).wf) = true ∧ met.length + o.length < 17592186044416 ∧ out.length < 1099511627776 then impl_Graph_orbits.go k l own d (s + 1) (out ++ [o]) (met ++ o) else none
def impl_Graph_orbits.f (k : Nat) (l0_0 : List Int) (a0_1 : Bool) : Option (List (List Int)) := impl_Graph_orbits.go k l0_0 a0_1 (shl .i64 1 (l0_0.length : Int)).toNat 0 [] []
theorem impl_Graph_orbits.go_mono (k : Nat) (l : List Int) (own : Bool) : ∀ (d s : Nat) (out : List (List Int)) (met : List Int), LeO (impl_Graph_orbits.go k l own d s out met) (impl_Graph_orbits.go (k + 1) l own d s out met)
  | 0, _, _, _ => LeO.refl _
  | d + 1, s, out, met => by
    unfold impl_Graph_orbits.go
    exact LeO.ite (impl_Graph_orbits.go_mono k l own d _ _ _) (LeO.bind (impl_Graph_orbit.f_mono (fun _ _ => LeO.refl _) _ _ _) (fun o => LeO.ite (impl_Graph_orbits.go_mono k l own d _ _ _) (LeO.refl _)))
theorem impl_Graph_orbits.mono : ∀ a0 a1 k, LeO (impl_Graph_orbits.f k a0 a1) (impl_Graph_orbits.f (k + 1) a0 a1) := fun a0 a1 k => impl_Graph_orbits.go_mono k a0 a1 _ _ _ _
theorem impl_Graph_orbits.move (A0_0 : Option Addr) (c0_0 : Nat) (l0_0 : List Int) (a0_1 : Bool) (w : World) (hr : Kd.C (Kd.int .i64) w A0_0 l0_0.length l0_0) (hc : l0_0.length ≤ c0_0) :
    MoveAt 43 #[.agg #[.slice A0_0 l0_0.length c0_0, .bool a0_1]] (fun s i => impl_Graph_litMove.f l0_0 a0_1 s i) w := fun W hW s i r h => by
  have hc := impl_Graph_litMove.calls A0_0 c0_0 l0_0 a0_1 s i r W (Kd.C_below hr hW) hc h
  simpa using hc
theorem impl_Graph_orbits.top (n : Int) : shl .i64 1 n ≤ 9223372036854775807 := by
  unfold shl
  rw [IntKind.wrap_i64]
  omega
theorem impl_Graph_orbits.wf {s : Nat} {N : Int} (h : (s : Int) < N) (hN : N ≤ 9223372036854775807) : (Lit.int .i64 (s : Int)).wf = true := by
  simp [Lit.wf, IntKind.min, IntKind.max, IntKind.bits, IntKind.signed]
  omega
abbrev impl_Graph_orbits.D : Kd (List Int) := Kd.slice 3 (Kd.int .i64)
theorem impl_Graph_orbits.head {W : World} {base : Nat} {ok : Nat → Prop} {v : Value} {xs : List (List Int)} (h : Kd.S (Kd.slice 3 (Kd.int .i64)) 24 W base ok v xs) : ∀ k, v.ownBlock = some k → ok k := by
  obtain ⟨f, hf⟩ := h
  exact hf.1
set_option maxRecDepth 100000 in
set_option maxHeartbeats 8000000 in
theorem impl_Graph_orbits.calls (k : Nat) (A0_0 : Option Addr) (c0_0 : Nat) (l0_0 : List Int) (a0_1 : Bool) (r : List (List Int)) (w : World) (hr0_0 : Kd.C (Kd.int .i64) w A0_0 l0_0.length l0_0) (hc0_0 : l0_0.length ≤ c0_0) (h : impl_Graph_orbits.f k l0_0 a0_1 = some r) :
    Calls Try.prog 36 #[.agg #[.slice A0_0 l0_0.length c0_0, .bool a0_1]] w fun e w' => ∃ v0_ : Value, e = .returned (v0_) ∧ Kd.S (Kd.slice 3 (Kd.int .i64)) 24 w' w.heap.size (fun _ => True) v0_ r ∧ Below w.heap.size w w' := by
  have hu28 := Try.underlying26
  have hNb := impl_Graph_orbits.top (l0_0.length : Int)
  unfold impl_Graph_orbits.f at h
  have hM := Kd.C_max hr0_0
  have HR := Aside0.mk hr0_0
  have HC := Aside0.mk hc0_0
  obtain ⟨ji4, hji4⟩ : ∃ j_ : Int, (shl .i64 1 (l0_0.length : Int)) = j_ := ⟨_, rfl⟩
  rw [hji4] at h hNb
  have HH := Aside0.mk h
  clear hr0_0 hc0_0 h
  have hji4_ : (IntKind.i64.wrap (1 * 2 ^ min (l0_0.length : Int).toNat 64)) = ji4 := hji4
  have hji4z : (l0_0.length : Int) ≤ 64 → (IntKind.i64.wrap (1 * 2 ^ (l0_0.length : Int).toNat)) = ji4 := shl_small hji4
  have hji4p : (IntKind.i64.wrap (1 * 2 ^ min l0_0.length 64)) = ji4 := hji4_
  have hji4q : (l0_0.length : Int) ≤ 64 → (IntKind.i64.wrap (1 * 2 ^ l0_0.length)) = ji4 := hji4z
  have hji4r : (IntKind.i64.wrap (2 ^ min l0_0.length 64)) = ji4 := by have h_ := hji4p; rw [Int.one_mul] at h_; exact h_
  have hji4s : (l0_0.length : Int) ≤ 64 → (IntKind.i64.wrap (2 ^ l0_0.length)) = ji4 := fun hle_ => by have h_ := hji4q hle_; rw [Int.one_mul] at h_; exact h_
  have hji4u : (IntKind.i64.wrap (2 ^ min (l0_0.length : Int).toNat 64)) = ji4 := by have h_ := hji4_; rw [Int.one_mul] at h_; exact h_
  have hji4v : (l0_0.length : Int) ≤ 64 → (IntKind.i64.wrap (2 ^ (l0_0.length : Int).toNat)) = ji4 := fun hle_ => by have h_ := hji4z hle_; rw [Int.one_mul] at h_; exact h_
  have hji4y : (wrap64 (1 * 2 ^ min (l0_0.length : Int).toNat 64)) = ji4 := (i64_w _).symm.trans hji4_
  have hji4x : (l0_0.length : Int) ≤ 64 → (wrap64 (1 * 2 ^ (l0_0.length : Int).toNat)) = ji4 := fun h_ => (i64_w _).symm.trans (hji4z h_)
  go_enter Try.func36, Try.ntmps36
  go_wp2_with (first
    | ((with_reducible refine gate_dst (N := 1) rfl ?_); refine box_event ?hg (N := 1) ?hd (cs := #[.slice A0_0 l0_0.length c0_0, .bool a0_1]) (t := 26) ?hr ?_; (case hd => rfl); (case hg => rfl); (case hr => first | (go_simp; done) | (go_simp; rfl)); intro gb hgb w10 hbox hb; have BK := Aside0.mk hbox; have HB0 := Aside0.mk hb; clear hgb hbox hb; have hgl : gb < w10.heap.size := blk_lt BK.out)
    | ((with_reducible refine gate_dst (N := 9) rfl ?_); refine Kd.S_lit (Kd.slice 3 (Kd.int .i64)) _ 24 ?hg (N := 9) ?hd (xs := ([] : List (List Int))) (inner := []) (ok := fun _ => True) (okp := fun _ => True) ?hr ?hp (fun _ hk => hk) trivial (Below.refl _ _) (Nat.le_refl _) (by simp) ?_; (case hd => rfl); (case hg => rfl); (case hr => first | (go_simp; done) | (go_simp; rfl)); (case hp => exact (Reps.none _ _)); intro v3 w3 ho3 hb3 hg3 hnew3; have HO3 := Aside0.mk ho3; have HB3 := Aside0.mk hb3; clear ho3 hb3 hg3 hnew3)
    | (refine Met.make rfl rfl ?_; intro mb w4 hm4 hb4 hmb4; have HM4 := Aside0.mk hm4; have HMB := Aside0.mk (show w10.heap.size ≤ mb by have := HB3.out.size; omega); have HO4 := Aside0.mk (Kd.S_mono (ok' := fun k_ => k_ ≠ mb) (Kd.S_below (Kd.S_bound HO3.out) hb4) (fun k_ hk_ => by have := hk_.2.2.1; omega)); have HB4 := Aside0.mk (below_step HB3.out hb4); clear hm4 hb4 hmb4 HO3 HB3; have hx4 : w4.cell? ⟨gb, 0, none⟩ = some (.slice A0_0 l0_0.length c0_0) := (HB4.out.cell (p := ⟨gb, 0, none⟩) hgl).trans ((blk_cell BK.out 0).trans rfl)))
  go_loopg [3, 15] ji4.toNat (fun d v3 v15 wr => ∃ (s : Nat) (outs : List (List Int)) (met : List Int), v15 = .int .i64 s ∧ Aside0 (s + d = ji4.toNat) ∧ Aside0 (impl_Graph_orbits.go k l0_0 a0_1 d s outs met = some r) ∧ Aside0 (Kd.S (Kd.slice 3 (Kd.int .i64)) 24 wr w10.heap.size (fun k_ => k_ ≠ mb) v3 outs) ∧ Aside0 (Met wr mb met) ∧ Aside0 (Below w10.heap.size w10 wr))
  case atStart => exact ⟨0, [], [], rfl, ⟨by omega⟩, HH, HO4, HM4, HB4⟩
  case round =>
    clear HO4 HM4 HB4 hx4 HH
    obtain ⟨s, outs, met, rfl, HD, HA, HO, HM, HB⟩ := hrel
    cases gk with
    | zero =>
      have hge : ji4 ≤ (s : Int) := by have := HD.out; omega
      have e1 : outs = r := by have := HA.out; simpa [impl_Graph_orbits.go] using this
      subst e1
      go_wp2
      go_ret
      exact ⟨_, rfl, Kd.S_lower (Kd.S_mono HO.out (fun _ _ => trivial)) HB0.out.size, below_step HB0.out HB.out⟩
    | succ d =>
      have hlt : (s : Int) < ji4 := by have := HD.out; omega
      have hss : s < 9223372036854775807 := by omega
      have HWs := Aside0.mk (impl_Graph_orbits.wf hlt hNb)
      have hx0 : wr.cell? ⟨gb, 0, none⟩ = some (.slice A0_0 l0_0.length c0_0) := (HB.out.cell (p := ⟨gb, 0, none⟩) hgl).trans ((blk_cell BK.out 0).trans rfl)
      have hx1 : wr.cell? ⟨gb, 1, none⟩ = some (.bool a0_1) := (HB.out.cell (p := ⟨gb, 1, none⟩) hgl).trans ((blk_cell BK.out 1).trans rfl)
      have H := HA.out
      clear HA
      unfold impl_Graph_orbits.go at H
      cases q : met.contains (s : Int)
      · rw [q, if_neg (by decide)] at H
        obtain ⟨o, ho, H⟩ := Option.bind_eq_some_iff.1 H
        split at H
        case isFalse => cases H
        next hfit =>
        have HQ := Aside0.mk q
        have HF := Aside0.mk hfit
        have HH := Aside0.mk H
        have hB := below_step HB0.out HB.out
        have HC5 := Aside0.mk (impl_Graph_orbit.calls k 43 _ _ (Go.Proofs.enters_of Try.func43 (by kernel_rfl) rfl) A0_0 c0_0 l0_0 a0_1 (s : Int) o wr (impl_Graph_orbits.move A0_0 c0_0 l0_0 a0_1 wr (Kd.C_below HR.out hB) HC.out) (Kd.C_below HR.out hB) ho)
        clear q hfit H hB ho
        go_wp2_with (refine Met.lookup rfl (.tmp 18) (.tmp 19) rfl mb met rfl HM.out (s : Int) rfl HWs.out false HQ.out ?_)
        refine HC5.out.mono ?_
        rintro e w5 ⟨v5, rfl, hr5, hb5⟩
        obtain ⟨A5, c5, rfl, hl5, hC5⟩ := Kd.R_reads hr5
        have hm5 := Kd.C_max hC5
        have hmlt := HM.out.lt
        have HO5 := Aside0.mk (Kd.S_mono (ok' := fun k_ => k_ ≠ mb ∧ k_ < wr.heap.size) (Kd.S_below (Kd.S_bound HO.out) hb5) (fun k_ hk_ => ⟨hk_.1, hk_.2.2.1⟩))
        have HV5 := Aside0.mk (Kd.R_mono (ok' := fun k_ => k_ ≠ mb ∧ wr.heap.size ≤ k_) (Kd.R_bound hr5) (fun k_ hk_ => by have := hk_.2.1; omega))
        have HM5 := Aside0.mk (HM.out.below hb5)
        have HB5 := Aside0.mk (below_step HB.out hb5)
        have HZ := Aside0.mk HB.out.size
        clear hr5 hb5 hC5 HO HM HB hx0 hx1 HC5 HQ hmlt
        generalize hn5 : wr.heap.size = n5 at HO5 HV5 HZ
        clear hn5
        go_wp2
        go_loopg [28] o.length (fun g v28 wr2 => ∃ i : Nat, v28 = .int .i64 i ∧ Aside0 (i + g = o.length) ∧ Aside0 (Met wr2 mb (met ++ o.take i)) ∧ Aside0 (Kd.S (Kd.slice 3 (Kd.int .i64)) 24 wr2 w10.heap.size (fun k_ => k_ ≠ mb ∧ k_ < n5) u3 outs) ∧ Aside0 (Kd.R (Kd.int .i64) 3 wr2 n5 (fun k_ => k_ ≠ mb ∧ n5 ≤ k_) (.slice A5 o.length c5) o) ∧ Aside0 (Below w10.heap.size w10 wr2))
        case atStart => exact ⟨0, rfl, ⟨by omega⟩, ⟨by simpa using HM5.out⟩, HO5, HV5, HB5⟩
        case round =>
          clear HO5 HV5 HM5 HB5
          obtain ⟨i, rfl, HD2, HM2, HO2, HV2, HB2⟩ := hrel
          cases gk with
          | zero =>
            have hge : ¬ (i < o.length) := by have := HD2.out; omega
            have hti : o.take i = o := List.take_of_length_le (by omega)
            have HT := Aside0.mk hti
            clear hti
            have hin : ∀ k_, some k_ = (Value.slice A5 o.length c5).ownBlock → k_ ≠ mb ∧ n5 ≤ k_ := fun k_ hk_ => HV2.out.1 k_ hk_.symm
            have HIN := Aside0.mk hin
            clear hin
            go_wp2_with ((with_reducible refine gate_builtin (b := .append) (xs := #[.tmp 35, .tmp 37]) rfl ?_); at_builtin; refine Kd.S_append (Kd.slice 3 (Kd.int .i64)) (w0 := w10) w10.heap.size rfl (.tmp 35) (.tmp 37) 48 24 (.slice none 0 0) 24 rfl Try.underlying48 info24 rfl (by decide) (by omega) u3 outs o [.slice A5 o.length c5] (fun k_ => k_ ≠ mb) (fun k_ => some k_ = (.slice A5 o.length c5 : Value).ownBlock) rfl rfl ?aP ?aK ?aF ?aO HB2.out HB2.out.size ?aL ?_; (case aP => exact Kd.M_row (Kd.R_tight rfl (Kd.R_lower HV2.out HZ.out))); (case aK => exact fun k_ hk_ => ⟨(HIN.out k_ hk_).1, fun e_ => by have h1 := (HIN.out k_ hk_).2; have h2 := (impl_Graph_orbits.head HO2.out k_ e_.symm).2; omega⟩); (case aF => exact fun k_ hk_ => by have := HM2.out.lt; omega); (case aO => exact Kd.S_mono HO2.out (fun k_ hk_ => ⟨hk_.1, fun e_ => by have h1 := (HIN.out k_ e_).2; omega⟩)); (case aL => have := HF.out.2.2; omega); intro v9 w9 ho9 hb9 hg9 hat9; have HO9 := Aside0.mk ho9; have HB9 := Aside0.mk hb9; have HM9 := Aside0.mk (HM2.out.kept hg9 (fun e_ => (impl_Graph_orbits.head HO2.out _ e_.symm).1 rfl)); clear ho9 hb9 hg9 hat9)
            go_roundg d
            case measure => omega
            case rel => exact ⟨s + 1, outs ++ [o], met ++ o, by go_num, ⟨by have := HD.out; omega⟩, HH, HO9, ⟨by have := HM9.out; rw [HT.out] at this; exact this⟩, HB9⟩
          | succ g =>
            have hlt2 : i < o.length := by have := HD2.out; omega
            obtain ⟨ad, e, hx⟩ := Kd.at_int (Kd.R_reads' HV2.out).2.2 (i : Int) (by omega) (by omega)
            cases e
            have hx2 : wr.cell? (ad.add i) = some (.int .i64 o[i]) := by
              have e1 : rd o (i : Int) = o[i] := by unfold rd; simp [List.getD_eq_getElem?_getD, List.getElem?_eq_getElem hlt2]
              rw [e1] at hx
              simpa using hx
            have hwf : (Lit.int .i64 o[i]).wf = true := List.all_eq_true.1 HF.out.1 _ (List.getElem_mem hlt2)
            have hsn : met ++ o.take i ++ [o[i]] = met ++ o.take (i + 1) := by rw [List.append_assoc, List.take_succ_eq_append_getElem hlt2]
            have hlen : (met ++ o.take i).length < 17592186044416 := by have := HF.out.2.1; simp; omega
            generalize o[i] = y at hx2 hwf hsn
            have HWF := Aside0.mk hwf
            have HSN := Aside0.mk hsn
            have HLE := Aside0.mk hlen
            clear hx hwf hsn hlen
            go_wp2_with (refine Met.store rfl (.tmp 32) (.tmp 33) (.const (.bool true)) rfl mb (met ++ o.take i) rfl HM2.out y rfl rfl HWF.out HLE.out ?_; intro w6 hm6 hg6; have HM6 := Aside0.mk hm6; have HO6 := Aside0.mk (Kd.S_grown HO2.out hg6 (fun k_ hk_ e_ => hk_.1 (by injection e_))); have HV6 := Aside0.mk (Kd.R_grown HV2.out hg6 (fun k_ hk_ e_ => hk_.1 (by injection e_))); have HB6 := Aside0.mk (impl_Graph_orbit.grown HB2.out hg6 HMB.out); clear hm6 hg6)
            go_roundg g
            case measure => omega
            case rel => exact ⟨i + 1, by go_num, ⟨by have := HD2.out; omega⟩, ⟨by rw [← HSN.out]; exact HM6.out⟩, HO6, HV6, HB6⟩
      · rw [q, if_pos rfl] at H
        have HQ := Aside0.mk q
        have HH := Aside0.mk H
        clear q H
        go_wp2_with (refine Met.lookup rfl (.tmp 18) (.tmp 19) rfl mb met rfl HM.out (s : Int) rfl HWs.out true HQ.out ?_)
        go_roundg d
        case measure => omega
        case rel => exact ⟨s + 1, outs, met, by go_num, ⟨by have := HD.out; omega⟩, HH, HO, HM, HB⟩

end Go.Proofs.Ytjkijnggjjoheaa.PFnLitOrbits
