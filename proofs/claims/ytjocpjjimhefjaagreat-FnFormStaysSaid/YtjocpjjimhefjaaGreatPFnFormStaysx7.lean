-- Written by a program of this session (wip/tools/mp.py) around the kit's printer; Lean checks it.
import Derived.Test.YtjocpjjimhefjaaGreatPFnFormStaysx0
import Derived.Test.YtjocpjjimhefjaaGreatPFnFormStaysx3
import Derived.Test.YtjocpjjimhefjaaGreatPFnFormStaysx5
import Derived.Carry
import Derived.Maps.OwnOps
import Derived.Maps.OwnSet
import Derived.Maps.Views
import Derived.Shelf.Slices.In.SortNone
import Derived.Shelf.Sort.Plain
import Derived.Sort.OwnSortedInts
namespace Go.Proofs.YtjocpjjimhefjaaGreat.PFnFormStays
open Go.RowKit Go.Proofs.YtjocpjjimhefjaaGreatW.PrintWords Go.Proofs.YtjocpjjimhefjaaGreatW.PrintLast Go.Proofs.YtjocpjjimhefjaaGreatW.PrintMore
attribute [local go_sem] max2_int min2_int max_two min_two max_three min_three max_four min_four   -- for this text's walks alone
set_option linter.unusedVariables false
set_option linter.unusedSimpArgs false
-- MANUAL
open Go.Shelf Go.Sort in
def slices_Sort_int_int.lays_ren : Go.Shelf.Ren := ⟨fun | 189 => 74 | 125 => 88 | 257 => 87 | 128 => 104 | 129 => 105 | 294 => 95 | 295 => 96 | 296 => 97 | 297 => 98 | 298 => 99 | 299 => 100 | 216 => 101 | 300 => 102 | 301 => 103 | 328 => 106 | 329 => 107 | 330 => 108 | 331 => 109 | 332 => 110 | 215 => 111 | 343 => 112 | n => n, fun | 28 => 24 | 3 => 3 | 46 => 80 | 0 => 0 | 51 => 85 | 53 => 54 | 4 => 4 | 183 => 91 | 182 => 90 | 131 => 29 | 5 => 5 | 9 => 9 | 218 => 95 | 222 => 99 | 228 => 101 | 229 => 102 | n => n, fun | n => n⟩
theorem slices_Sort_int_int.lays : Go.Proofs.Lays.n189 Tryz.prog slices_Sort_int_int.lays_ren := {
  mixed := by kernel_rfl
  f125 := Tryz.func88.trans (congrArg some (by kernel_rfl))
  f128 := Tryz.func104.trans (congrArg some (by kernel_rfl))
  f129 := Tryz.func105.trans (congrArg some (by kernel_rfl))
  f189 := Tryz.func74.trans (congrArg some (by kernel_rfl))
  f215 := Tryz.func111.trans (congrArg some (by kernel_rfl))
  f216 := Tryz.func101.trans (congrArg some (by kernel_rfl))
  f257 := Tryz.func87.trans (congrArg some (by kernel_rfl))
  f294 := Tryz.func95.trans (congrArg some (by kernel_rfl))
  f295 := Tryz.func96.trans (congrArg some (by kernel_rfl))
  f296 := Tryz.func97.trans (congrArg some (by kernel_rfl))
  f297 := Tryz.func98.trans (congrArg some (by kernel_rfl))
  f298 := Tryz.func99.trans (congrArg some (by kernel_rfl))
  f299 := Tryz.func100.trans (congrArg some (by kernel_rfl))
  f300 := Tryz.func102.trans (congrArg some (by kernel_rfl))
  f301 := Tryz.func103.trans (congrArg some (by kernel_rfl))
  f328 := Tryz.func106.trans (congrArg some (by kernel_rfl))
  f329 := Tryz.func107.trans (congrArg some (by kernel_rfl))
  f330 := Tryz.func108.trans (congrArg some (by kernel_rfl))
  f331 := Tryz.func109.trans (congrArg some (by kernel_rfl))
  f332 := Tryz.func110.trans (congrArg some (by kernel_rfl))
  f343 := Tryz.func112.trans (congrArg some (by kernel_rfl))
  t0 := Tryz.underlying0
  a0 := Tryz.isAgg0
  z0 := Tryz.sizeOf0
  v0 := Tryz.zeroValue0
  t3 := Tryz.underlying3
  a3 := Tryz.isAgg3
  z3 := Tryz.sizeOf3
  v3 := Tryz.zeroValue3
  t4 := Tryz.underlying4
  a4 := Tryz.isAgg4
  z4 := Tryz.sizeOf4
  v4 := Tryz.zeroValue4
  t5 := Tryz.underlying5
  a5 := Tryz.isAgg5
  z5 := Tryz.sizeOf5
  v5 := Tryz.zeroValue5
  t9 := Tryz.underlying9
  a9 := Tryz.isAgg9
  z9 := Tryz.sizeOf9
  v9 := Tryz.zeroValue9
  t28 := Tryz.underlying24
  a28 := Tryz.isAgg24
  z28 := Tryz.sizeOf24
  v28 := Tryz.zeroValue24
  t46 := Tryz.underlying80
  a46 := Tryz.isAgg80
  z46 := Tryz.sizeOf80
  v46 := Tryz.zeroValue80
  t51 := Tryz.underlying85
  a51 := Tryz.isAgg85
  z51 := Tryz.sizeOf85
  v51 := Tryz.zeroValue85
  t53 := Tryz.underlying54
  a53 := Tryz.isAgg54
  z53 := Tryz.sizeOf54
  v53 := Tryz.zeroValue54
  t131 := Tryz.underlying29
  a131 := Tryz.isAgg29
  z131 := Tryz.sizeOf29
  v131 := Tryz.zeroValue29
  t182 := Tryz.underlying90
  a182 := Tryz.isAgg90
  z182 := Tryz.sizeOf90
  v182 := Tryz.zeroValue90
  t183 := Tryz.underlying91
  a183 := Tryz.isAgg91
  z183 := Tryz.sizeOf91
  v183 := Tryz.zeroValue91
  t218 := Tryz.underlying95
  a218 := Tryz.isAgg95
  z218 := Tryz.sizeOf95
  v218 := Tryz.zeroValue95
  t222 := Tryz.underlying99
  a222 := Tryz.isAgg99
  z222 := Tryz.sizeOf99
  v222 := Tryz.zeroValue99
  t228 := Tryz.underlying101
  a228 := Tryz.isAgg101
  z228 := Tryz.sizeOf101
  v228 := Tryz.zeroValue101
  t229 := Tryz.underlying102
  a229 := Tryz.isAgg102
  z229 := Tryz.sizeOf102
  v229 := Tryz.zeroValue102 }
def slices_Sort_int_int.f (l0 : List Int) : Option (List Int) := if l0.length < 4611686018427387904 then some (l0.mergeSort fun x y => decide (x ≤ y)) else none
theorem slices_Sort_int_int.below {w0 w w' : World} {g : Nat} {S : Nat → Prop} (hB : Below w0.heap.size w0 w) (hg : w.grownBy w' (some g)) (hb : w0.heap.size ≤ g) (hs : S g) : Below w0.heap.size w0 w' ∧ Kept w w' S :=
  ⟨hB.grown hg hB.size (fun k hk => by injection hk with hk; omega), Kept.of_grown hg (Kept.refl w S) (fun k hk => by injection hk with hk; subst hk; exact .inl hs)⟩
theorem slices_Sort_int_int.calls (P0_ : Nat → Prop) (u9000_ : Value) (l0 : List Int) (r : List Int) (w0 w : World) (hB : Below w0.heap.size w0 w) (ho0 : Kd.R (Kd.int .i64) 3 w w0.heap.size P0_ u9000_ l0) (h : slices_Sort_int_int.f l0 = some r) :
    Calls Tryz.prog 74 #[u9000_] w fun e w' => e = .returned (.tuple #[]) ∧ Kd.R (Kd.int .i64) 3 w' w0.heap.size (fun k_ => (P0_ k_ ∨ w.heap.size ≤ k_)) u9000_ r ∧ Below w0.heap.size w0 w' ∧ Kept w w' (fun k_ => P0_ k_) := by
  unfold slices_Sort_int_int.f at h
  split at h
  · next hlt =>
    obtain rfl := Option.some.inj h
    have ho := Kd.own_of_R ho0
    have hp := ho0.1
    rcases ho.2 with ⟨rfl, hz⟩ | ⟨g, cap, cur, rfl, hbase, hb, h1, h2, h3, h4⟩
    · have hl : l0 = [] := List.eq_nil_of_length_eq_zero hz
      subst hl
      have hc : Calls Tryz.prog 74 #[.slice none 0 0] w fun e w' => e = .returned (.tuple #[]) ∧ w' = w := Go.Proofs.Any.slices_Sort_int_none slices_Sort_int_int.lays none 0 w
      refine hc.mono ?_
      rintro e w' ⟨rfl, rfl⟩
      exact ⟨rfl, by simp only [List.mergeSort_nil]; exact Kd.R_nil _ _ _ _ _, hB, Kept.refl _ _⟩
    · have hH := Go.holds_of_blockI (ss := l0) hb (by simpa [encs] using h4)
      have hgl : g < w.heap.size := (Array.getElem?_eq_some_iff.1 hb).1
      have hc : Calls Tryz.prog 74 #[.slice (some ⟨g, 0, none⟩) l0.length cap] w fun e w' => e = .returned (.tuple #[]) ∧ ∃ n os, w' = Go.Sort.grow (Go.Sort.putRow (Value.int .i64) (Go.Sort.ahead w n) g 0 (l0.mergeSort fun x y => decide (x ≤ y)).toArray) os := Go.Proofs.Any.slices_Sort_int slices_Sort_int_int.lays g 0 cap l0 w hH hgl hlt
      refine hc.mono ?_
      rintro e w' ⟨rfl, nn, os, rfl⟩
      have hown := Go.ownsRow_sortedI (n := nn) (os := os) (ss := l0) (ts := l0.mergeSort fun x y => decide (x ≤ y)) (by simp) hbase hb h1 h2 h3
      have hk := slices_Sort_int_int.below (S := P0_) hB (Go.grownBy_sortedI (w := w) (g := g) (n := nn) (os := os) (l0.mergeSort fun x y => decide (x ≤ y)).toArray) hbase (hp g (by simp [Value.ownBlock]))
      refine ⟨rfl, Kd.R_of_own ?_ (fun k hk => .inl (hp k hk)), hk.1, hk.2⟩
      have e1 : (l0.mergeSort fun x y => decide (x ≤ y)).length = l0.length := by simp
      rw [e1]
      exact hown
  · cases h
-- MANUAL
theorem Met.bool_inv {P : Program} {e : TypeId} (he : P.underlying e = some .bool) {v : Value} {z : DataW Unit × List MemPlace} (h : plainElem P e v = some z) : ∃ x, v = .bool x ∧ z = (.lit (.bool x), []) := by
  unfold plainElem at h
  rw [he] at h
  cases v <;> simp at h
  exact ⟨_, rfl, h.symm⟩
def Met (W : World) (b : Nat) (out : List Int) : Prop :=
  ∃ (n : Nat) (D : DataW Unit), W.ownsMap Tryz.prog 3 (plainElem Tryz.prog 4) b n D ∧ n ≤ out.length ∧ ∀ x, (Lit.int .i64 x).wf = true → D.atKey (.int .i64 x) (.lit (.bool false)) = .lit (.bool (out.contains x))
theorem Met.made (W : World) : Met (W.alloc (.map #[] 0)) W.heap.size [] := ⟨0, _, World.ownsMap_made W _ _ _, Nat.le_refl _, fun _ _ => rfl⟩
theorem Met.lt {W : World} {b : Nat} {out : List Int} (h : Met W b out) : b < W.heap.size := by
  obtain ⟨n, D, ho, _⟩ := h
  exact ho.lt
theorem Met.kept {W W2 : World} {b : Nat} {out : List Int} {row : Option Nat} (h : Met W b out) (hg : W.grownBy W2 row) (hne : some b ≠ row) : Met W2 b out := by
  obtain ⟨n, D, ho, h2⟩ := h
  exact ⟨n, D, ho.kept hg hne, h2⟩
theorem Met.below {W W2 : World} {b : Nat} {out : List Int} (h : Met W b out) (hb : Below W.heap.size W W2) : Met W2 b out := h.kept (grown_of_below hb none) (by simp)
theorem Met.key {t : Int} (hw : (Lit.int .i64 t).wf = true) : keyOf Tryz.prog 3 (.int .i64 t) = some (.int .i64 t) := Maps.keyOf_int_mk Tryz.underlying3 hw
theorem Met.put {W2 : World} {b n : Nat} {out : List Int} {D : DataW Unit} (hm : Go.Maps.IsMap D) (hn : n ≤ out.length) (hat : ∀ x, (Lit.int .i64 x).wf = true → D.atKey (.int .i64 x) (.lit (.bool false)) = .lit (.bool (out.contains x)))
    {t : Int} (hw : (Lit.int .i64 t).wf = true) (ho : W2.ownsMap Tryz.prog 3 (plainElem Tryz.prog 4) b (n + 1) (D.put (.int .i64 t) (.lit (.bool true)))) : Met W2 b (out ++ [t]) := by
  refine ⟨n + 1, _, ho, by simp; omega, fun x hx => ?_⟩
  by_cases e : x = t
  · subst e
    rw [Go.Maps.atKey_put_same hm ((Maps.int_keyed Tryz.underlying3).key (Met.key hw))]
    simp
  · rw [Go.Maps.atKey_put_other (fun h => e (by injection h)), hat x hx]
    congr 2
    rw [Bool.eq_iff_iff]
    simp [e]
section
variable {w : World} {ops : Array Oper} {rest : List Oper} {o : Oper} {a : Act} {Q : Exit → Act → World → Prop}
theorem Met.lookup (hg : o.guard = none) (m x : Operand) (hop : o.op = Op.lookup 76 m x false) (b : Nat) (out : List Int) (hm : a.eval m = .map (some b)) (h : Met w b out) (t : Int) (hx : a.eval x = .int .i64 t) (hw : (Lit.int .i64 t).wf = true)
    (q : Bool) (hq : out.contains t = q) (hK : wpList Tryz.prog ops Q rest (a.put o.dst (.bool q)) w) : wpList Tryz.prog ops Q (o :: rest) a w := by
  refine wpList_plain hg fun K' hK' => ?_
  obtain ⟨n, D, hown, hn, hat⟩ := h
  obtain ⟨v, ps, hrun, hv⟩ := hown.lookup (Maps.int_keyed Tryz.underlying3) Tryz.underlying76 (z := .bool false) (Tryz.zeroValue4 w) (plainElem_bool Tryz.underlying4 false) (Met.key hw)
  rw [hat t hw, hq] at hv
  obtain ⟨y, rfl, hy⟩ := Met.bool_inv Tryz.underlying4 hv
  simp only [Prod.mk.injEq, DataW.lit.injEq, Lit.bool.injEq] at hy
  obtain ⟨rfl, _⟩ := hy
  unfold Oper.wp
  simp [execOp, hop, hm, hx, hrun, Result.andThen]
  exact hK' _ _ hK
theorem Met.store_run (b : Nat) (out : List Int) (h : Met w b out) (t : Int) (hw : (Lit.int .i64 t).wf = true) (hl : out.length < 17592186044416) :
    ∃ w', (Instr.mapUpdate 76 (.map (some b)) (.int .i64 t) (.bool true)).run Tryz.prog w = .ok () w' ∧ Met w' b (out ++ [t]) ∧ w.grownBy w' (some b) := by
  obtain ⟨n, D, hown, hn, hat⟩ := h
  obtain ⟨w', hrun, r1, r2⟩ := hown.update (Maps.int_keyed Tryz.underlying3) Tryz.underlying76 (by unfold maxLen; omega) (Met.key hw) (plainElem_bool Tryz.underlying4 true)
  exact ⟨w', hrun, Met.put (out := out) hown.isMap hn hat hw r1, r2⟩
theorem Met.store (hg : o.guard = none) (m x v : Operand) (hop : o.op = Op.mapUpdate 76 m x v) (b : Nat) (out : List Int) (hm : a.eval m = .map (some b)) (h : Met w b out) (t : Int) (hx : a.eval x = .int .i64 t) (hv : a.eval v = .bool true) (hw : (Lit.int .i64 t).wf = true) (hl : out.length < 17592186044416)
    (hK : ∀ w', Met w' b (out ++ [t]) → w.grownBy w' (some b) → wpList Tryz.prog ops Q rest (a.put o.dst undef) w') : wpList Tryz.prog ops Q (o :: rest) a w := by
  refine wpList_plain hg fun K' hK' => ?_
  obtain ⟨w', hrun, r1, r2⟩ := Met.store_run b out h t hw hl
  unfold Oper.wp
  simp [execOp, hop, hm, hx, hv, hrun, Result.andThen]
  exact hK' _ _ (hK w' r1 r2)
theorem Met.insert (hg : o.guard = none) (m x v : Operand) (hop : o.op = Op.insert 76 m x v) (b : Nat) (out : List Int) (hm : a.eval m = .map (some b)) (h : Met w b out) (t : Int) (hx : a.eval x = .int .i64 t) (hv : a.eval v = .bool true) (hw : (Lit.int .i64 t).wf = true) (hl : out.length < 17592186044416)
    (hK : ∀ w', Met w' b (out ++ [t]) → w.grownBy w' (some b) → wpList Tryz.prog ops Q rest (a.put o.dst undef) w') : wpList Tryz.prog ops Q (o :: rest) a w := by
  refine wpList_plain hg fun K' hK' => ?_
  obtain ⟨w', hrun, r1, r2⟩ := Met.store_run b out h t hw hl
  unfold Oper.wp
  simp [execOp, hop, hm, hx, hv, hrun, Result.andThen]
  exact hK' _ _ (hK w' r1 r2)
end
def MoveAt (F : Nat) (bd : Array Value) (mv : Int → Int → Option Int) (w : World) : Prop :=
  ∀ (W : World), Below w.heap.size w W → ∀ s i r, mv s i = some r → Calls Tryz.prog F (bd ++ #[.int .i64 s, .int .i64 i]) W fun e w' => e = .returned (.int .i64 r) ∧ Below W.heap.size W w'
def impl_Graph_orbit.inn (mv : Int → Int → Option Int) (s : Int) : Nat → Nat → List Int → Option (List Int)
  | 0, _, out => some out
  | d + 1, i, out => (mv s (i : Int)).bind fun t => if (Lit.int .i64 t).wf = true then (if out.contains t = true then impl_Graph_orbit.inn mv s d (i + 1) out else if out.length < 17592186044416 then impl_Graph_orbit.inn mv s d (i + 1) (out ++ [t]) else none) else none
def impl_Graph_orbit.go (mv : Int → Int → Option Int) (n : Nat) : Nat → Nat → List Int → Option (List Int)
  | 0, _, _ => none
  | f + 1, k, out => if k < out.length then (impl_Graph_orbit.inn mv (rd out (k : Int)) n 0 out).bind fun o => impl_Graph_orbit.go mv n f (k + 1) o else some out
def impl_Graph_orbit.f (k : Nat) (mv : Int → Int → Option Int) (l : List Int) (s : Int) : Option (List Int) :=
  if (Lit.int .i64 s).wf = true then (impl_Graph_orbit.go mv l.length k 0 [s]).bind fun o => slices_Sort_int_int.f o else none
theorem impl_Graph_orbit.inn_mono {mv mv' : Int → Int → Option Int} (h : ∀ s i, LeO (mv s i) (mv' s i)) (s : Int) : ∀ (d i : Nat) (out : List Int), LeO (impl_Graph_orbit.inn mv s d i out) (impl_Graph_orbit.inn mv' s d i out)
  | 0, _, _ => LeO.refl _
  | d + 1, i, out => by
    unfold impl_Graph_orbit.inn
    exact LeO.bind (h _ _) (fun t => LeO.ite (LeO.ite (impl_Graph_orbit.inn_mono h s d _ _) (LeO.ite (impl_Graph_orbit.inn_mono h s d _ _) (LeO.refl _))) (LeO.refl _))
theorem impl_Graph_orbit.go_mono {mv mv' : Int → Int → Option Int} (h : ∀ s i, LeO (mv s i) (mv' s i)) (n : Nat) : ∀ (f k : Nat) (out : List Int), LeO (impl_Graph_orbit.go mv n f k out) (impl_Graph_orbit.go mv' n (f + 1) k out)
  | 0, _, _ => LeO.none _
  | f + 1, k, out => by
    unfold impl_Graph_orbit.go
    exact LeO.ite (LeO.bind (impl_Graph_orbit.inn_mono h _ _ _ _) (fun o => impl_Graph_orbit.go_mono h n f (k + 1) o)) (LeO.refl _)
theorem impl_Graph_orbit.at_keep {out : List Int} {k : Nat} {s : Int} (t : Int) (h : k < out.length ∧ rd out (k : Int) = s) : k < (out ++ [t]).length ∧ rd (out ++ [t]) (k : Int) = s := by
  refine ⟨by simp; omega, ?_⟩
  rw [← h.2]
  unfold rd
  simp [List.getD_eq_getElem?_getD, List.getElem?_append_left h.1]
theorem impl_Graph_orbit.start {w10 w3 w4 : World} {v1 : Value} {a1 : Int} {ob : Obj} (ho : Kd.R (Kd.int .i64) 3 w3 w10.heap.size (fun _ => True) v1 [a1]) (hb : Below w10.heap.size w10 w3) (hg : (w3.alloc ob).grownBy w4 (some w3.heap.size)) :
    Kd.R (Kd.int .i64) 3 w4 w10.heap.size (fun k => k ≠ w3.heap.size) v1 [a1] ∧ Below w10.heap.size w10 w4 ∧ w10.heap.size ≤ w3.heap.size := by
  have h1 : Kd.R (Kd.int .i64) 3 w3 w10.heap.size (fun k => k ≠ w3.heap.size) v1 [a1] := Kd.R_mono (Kd.R_bound ho) (fun k hk => by have := hk.2.2.1; omega)
  have h2 := Kd.R_below h1 (below_alloc (Below.refl w3.heap.size w3) ob)
  exact ⟨Kd.R_grown h2 hg (fun k hk e => hk (by injection e)), (below_alloc hb ob).grown hg (below_alloc hb ob).size (fun k hk => by injection hk with hk; have := hb.size; omega), hb.size⟩
theorem impl_Graph_orbit.grown {w10 W W2 : World} {b : Nat} (h : Below w10.heap.size w10 W) (hg : W.grownBy W2 (some b)) (hb : w10.heap.size ≤ b) : Below w10.heap.size w10 W2 :=
  h.grown hg h.size (fun k hk => by injection hk with hk; omega)
set_option maxRecDepth 100000 in
set_option maxHeartbeats 4000000 in
theorem impl_Graph_orbit.calls (k : Nat) (F : Nat) (bd : Array Value) (mv : Int → Int → Option Int) (eg : ∀ args w, (callFunc F args).run Tryz.prog w = .ok (.enter F args) w) (A0_0 : Option Addr) (c0_0 : Nat) (l0_0 : List Int) (a0_1 : Bool) (a1 : Int) (r : List Int) (w : World) (hmv : MoveAt F bd mv w)
    (hr0_0 : Kd.C (Kd.int .i64) w A0_0 l0_0.length l0_0) (h : impl_Graph_orbit.f k mv l0_0 a1 = some r) :
    Calls Tryz.prog 45 #[.agg #[.slice A0_0 l0_0.length c0_0, .bool a0_1], .int .i64 a1, .func (.func F) bd #[]] w fun e w' => ∃ v0_ : Value, e = .returned v0_ ∧ Kd.R (Kd.int .i64) 3 w' w.heap.size (fun _ => True) v0_ r ∧ Below w.heap.size w w' := by
  have hmm := @run_makeMap Tryz.prog
  unfold impl_Graph_orbit.f at h
  split at h
  case isFalse => cases h
  next hwf =>
  obtain ⟨o, ho, hs⟩ := Option.bind_eq_some_iff.1 h
  clear h
  have hM := Kd.C_max hr0_0
  have HWF := Aside0.mk hwf
  have HS := Aside0.mk hs
  have HH := Aside0.mk ho
  have HMV := Aside0.mk hmv
  have HR := Aside0.mk hr0_0
  clear hwf hs ho hmv hr0_0
  go_enter Tryz.func45, Tryz.ntmps45
  go_wp2_with (first
    | ((with_reducible refine gate_dst (N := 3) rfl ?_); refine box_event ?hg (N := 3) ?hd (cs := #[.slice A0_0 l0_0.length c0_0, .bool a0_1]) (t := 26) ?hr ?_; (case hd => rfl); (case hg => rfl); (case hr => first | (go_simp; done) | (go_simp; rfl)); intro gb hgb w10 hbox hb; have BK := Aside0.mk hbox; have HB0 := Aside0.mk hb; have HGB := Aside0.mk hgb; clear hbox hb hgb)
    | ((with_reducible refine gate_dst (N := 13) rfl ?_); refine Kd.R_lit (Kd.int .i64) _ 3 ?hg (N := 13) ?hd (xs := ([a1] : List Int)) (inner := [.int .i64 a1]) (ok := fun _ => True) (okp := fun _ => True) ?hr ?hp (fun _ hk => hk) trivial (Below.refl _ _) (Nat.le_refl _) (by simp) ?_; (case hd => rfl); (case hg => rfl); (case hr => first | (go_simp; done) | (go_simp; rfl)); (case hp => exact (Reps.one (show Kd.M (Kd.int .i64) _ _ _ a1 [.int .i64 a1] from rfl) (Reps.none _ _))); intro v1 w3 ho3 hb3 hg3 hnew3; have HO3 := Aside0.mk ho3; have HB3 := Aside0.mk hb3; clear ho3 hb3 hg3 hnew3)
    | (refine Met.insert rfl (.tmp 14) (.tmp 15) (.const (.bool true)) rfl w3.heap.size [] rfl (Met.made w3) a1 rfl rfl HWF.out (by simp) ?_; intro w4 hm4 hg4; have HM4 := Aside0.mk hm4; have HG4 := Aside0.mk hg4; clear hm4 hg4))
  have H4 := Aside0.mk (impl_Graph_orbit.start HO3.out HB3.out HG4.out)
  clear HO3 HB3 HG4
  go_loopg [7, 9] k (fun kq v7 v9 wr => ∃ (out : List Int) (kk : Nat), v9 = .int .i64 kk ∧ Aside0 (impl_Graph_orbit.go mv l0_0.length kq kk out = some o) ∧ Aside0 (Kd.R (Kd.int .i64) 3 wr w10.heap.size (fun k_ => k_ ≠ w3.heap.size) v7 out) ∧ Aside0 (Met wr w3.heap.size out) ∧ Aside0 (Below w10.heap.size w10 wr))
  case atStart => exact ⟨[a1], 0, rfl, HH, ⟨H4.out.1⟩, ⟨by simpa using HM4.out⟩, ⟨H4.out.2.1⟩⟩
  case round =>
    obtain ⟨out, kk, rfl, HA, HO, HM, HB⟩ := hrel
    clear HH HM4
    obtain ⟨A7, c7, rfl, hl7, hC7⟩ := Kd.R_reads HO.out
    have hgl : gb < w10.heap.size := blk_lt BK.out
    have hx0 : wr.cell? ⟨gb, 0, none⟩ = some (.slice A0_0 l0_0.length c0_0) := (HB.out.cell (p := ⟨gb, 0, none⟩) hgl).trans ((blk_cell BK.out 0).trans rfl)
    cases gk with
    | zero => exact absurd HA.out (by simp [impl_Graph_orbit.go])
    | succ k1 =>
      have H := HA.out
      clear HA
      simp only [impl_Graph_orbit.go] at H
      by_cases c : kk < out.length
      · rw [if_pos c] at H
        obtain ⟨s, hs⟩ : ∃ s, rd out (kk : Int) = s := ⟨_, rfl⟩
        rw [hs] at H
        obtain ⟨o1, h1, h2⟩ := Option.bind_eq_some_iff.1 H
        have H1 := Aside0.mk h1
        have H2 := Aside0.mk h2
        have HK := Aside0.mk (And.intro c hs)
        have hkk : kk < 9223372036854775807 := by have := Kd.C_max hC7; omega
        clear H h1 h2 hs hC7
        go_wp2
        go_loopg [7, 26] l0_0.length (fun d v7 v26 wr2 => ∃ (ou : List Int) (i : Nat), v26 = .int .i64 i ∧ Aside0 (i + d = l0_0.length) ∧ Aside0 (impl_Graph_orbit.inn mv s d i ou = some o1) ∧ Aside0 (Kd.R (Kd.int .i64) 3 wr2 w10.heap.size (fun k_ => k_ ≠ w3.heap.size) v7 ou) ∧ Aside0 (Met wr2 w3.heap.size ou) ∧ Aside0 (Below w10.heap.size w10 wr2) ∧ Aside0 (kk < ou.length ∧ rd ou (kk : Int) = s))
        case atStart => exact ⟨out, 0, rfl, ⟨by omega⟩, H1, HO, HM, HB, HK⟩
        case round =>
          clear hx0 c
          obtain ⟨ou, i, rfl, HD, HI, HOu, HMu, HBu, HKs⟩ := hrel
          obtain ⟨A8, c8, rfl, hl8, hC8⟩ := Kd.R_reads HOu.out
          cases gk with
          | zero =>
            have hge : ¬ (i < l0_0.length) := by have := HD.out; omega
            have e1 : ou = o1 := by have := HI.out; simpa [impl_Graph_orbit.inn] using this
            have E1 := Aside0.mk e1
            clear e1 hC8
            go_wp2
            go_roundg k1
            case measure => omega
            case rel => exact ⟨ou, kk + 1, by go_num, ⟨by rw [E1.out]; exact H2.out⟩, HOu, HMu, HBu⟩
          | succ d =>
            have hlt : i < l0_0.length := by have := HD.out; omega
            have H := HI.out
            clear HI
            unfold impl_Graph_orbit.inn at H
            obtain ⟨t, ht, H⟩ := Option.bind_eq_some_iff.1 H
            split at H
            case isFalse => cases H
            next hw =>
            have HWt := Aside0.mk hw
            have hck : kk < ou.length := HKs.out.1
            obtain ⟨ad8, e8, hx8⟩ := Kd.at_int hC8 (kk : Int) (by omega) (by omega)
            cases e8
            rw [HKs.out.2] at hx8
            have hx9 : wr.cell? (ad8.add kk) = some (.int .i64 s) := by simpa using hx8
            have hcall := HMV.out wr (below_step HB0.out HBu.out) s (i : Int) t ht
            have HC := Aside0.mk hcall
            clear hx8 hC8 hw ht hcall HO HM HB hl7 H1 HK
            have hii : i < 9223372036854775807 := by omega
            cases q : ou.contains t
            · rw [q, if_neg (by decide)] at H
              split at H
              case isFalse => cases H
              next hsz =>
              have HQ := Aside0.mk q
              have HZ := Aside0.mk hsz
              have HH := Aside0.mk H
              clear H q hsz
              go_wp2_with fail
              refine HC.out.mono ?_
              rintro e w5 ⟨rfl, hb5⟩
              have HO5 := Aside0.mk (Kd.R_below HOu.out hb5)
              have HM5 := Aside0.mk (HMu.out.below hb5)
              have HB5 := Aside0.mk (below_step HBu.out hb5)
              clear hb5 HC HOu HMu HBu hx9
              go_wp2_with (first
                | (refine Met.lookup rfl (.tmp 36) (.tmp 37) rfl w3.heap.size ou rfl HM5.out t rfl HWt.out false HQ.out ?_)
                | (refine Met.store rfl (.tmp 40) (.tmp 41) (.const (.bool true)) rfl w3.heap.size ou rfl HM5.out t rfl rfl HWt.out HZ.out ?_; intro w6 hm6 hg6; have HM6 := Aside0.mk hm6; have HO6 := Aside0.mk (Kd.R_grown HO5.out hg6 (fun k_ hk_ e_ => hk_ (by injection e_))); have HB6 := Aside0.mk (impl_Graph_orbit.grown HB5.out hg6 H4.out.2.2); clear hm6 hg6 HM5 HO5 HB5)
                | ((with_reducible refine gate_builtin (b := .append) (xs := #[.tmp 42, .tmp 44]) rfl ?_); at_builtin; refine Kd.R_append (Kd.int .i64) (w0 := w10) w10.heap.size rfl (.tmp 42) (.tmp 44) 24 3 (.int .i64 0) 8 rfl Tryz.underlying24 info3 rfl (by decide) (by omega) _ ou t [.int .i64 t] (fun k_ => k_ ≠ w3.heap.size) (fun _ => False) rfl rfl ?aP (fun _ hk => hk.elim) ?aF HO6.out HB6.out HB6.out.size (by have := HZ.out; omega) ?_; (case aP => exact rfl); (case aF => intro k_ hk_ e_; have := HM6.out.lt; omega); intro v7 w7 ho7 hb7 hg7 hat7; have HO7 := Aside0.mk ho7; have HB7 := Aside0.mk hb7; have HM7 := Aside0.mk (HM6.out.kept hg7 (fun e_ => HO6.out.1 _ e_.symm rfl)); clear ho7 hb7 hg7 hat7 HM6 HO6 HB6))
              go_roundg d
              case measure => omega
              case rel => exact ⟨ou ++ [t], i + 1, by go_num, ⟨by have := HD.out; omega⟩, HH, HO7, HM7, HB7, ⟨impl_Graph_orbit.at_keep t HKs.out⟩⟩
            · rw [q, if_pos rfl] at H
              have HQ := Aside0.mk q
              have HH := Aside0.mk H
              clear H q
              go_wp2_with fail
              refine HC.out.mono ?_
              rintro e w5 ⟨rfl, hb5⟩
              have HO5 := Aside0.mk (Kd.R_below HOu.out hb5)
              have HM5 := Aside0.mk (HMu.out.below hb5)
              have HB5 := Aside0.mk (below_step HBu.out hb5)
              clear hb5 HC HOu HMu HBu hx9
              go_wp2_with (refine Met.lookup rfl (.tmp 36) (.tmp 37) rfl w3.heap.size ou rfl HM5.out t rfl HWt.out true HQ.out ?_)
              go_roundg d
              case measure => omega
              case rel => exact ⟨ou, i + 1, by go_num, ⟨by have := HD.out; omega⟩, HH, HO5, HM5, HB5, HKs⟩
      · rw [if_neg c] at H
        obtain rfl := Option.some.inj H
        clear H hC7 HM
        have hcall := Aside0.mk (slices_Sort_int_int.calls (fun k_ => k_ ≠ w3.heap.size) _ out r w10 wr HB.out HO.out HS.out)
        go_wp2_with (go_at_call 74; refine hcall.out.mono ?_; rintro e w5 ⟨rfl, hr5, hb5, hk5⟩; have HO5 := Aside0.mk (Kd.R_lower (Kd.R_mono hr5 (fun _ _ => trivial)) HB0.out.size : Kd.R (Kd.int .i64) 3 w5 w.heap.size (fun _ => True) _ r); have HB5 := Aside0.mk (below_step HB0.out hb5); clear hr5 hb5 hk5)
        go_ret
        exact ⟨_, rfl, HO5.out, HB5.out⟩
-- MANUAL
def impl_ReflectOrbit.f (k : Nat) (l0_0 : List Int) (a0_1 : Bool) (a1 : Int) : Option (List Int × Bool) := (impl_isLit.f k l0_0 a0_1 [a1]).bind fun t => if t = true then ((impl_Graph_orbit.f k (fun s i => impl_Graph_reflect.f l0_0 a0_1 s i) l0_0 a1).bind fun o => some (o, true)) else some ([], false)
theorem impl_ReflectOrbit.move (A0_0 : Option Addr) (c0_0 : Nat) (l0_0 : List Int) (a0_1 : Bool) (w : World) (hr : Kd.C (Kd.int .i64) w A0_0 l0_0.length l0_0) (hc : l0_0.length ≤ c0_0) :
    MoveAt 42 #[.agg #[.slice A0_0 l0_0.length c0_0, .bool a0_1]] (fun s i => impl_Graph_reflect.f l0_0 a0_1 s i) w := fun W hW s i r h => by
  have hc := impl_Graph_reflect.calls A0_0 c0_0 l0_0 a0_1 s i r W (Kd.C_below hr hW) hc h
  simpa using hc
set_option maxRecDepth 100000 in
set_option maxHeartbeats 4000000 in
theorem impl_ReflectOrbit.calls (k : Nat) (A0_0 : Option Addr) (c0_0 : Nat) (l0_0 : List Int) (a0_1 : Bool) (a1 : Int) (r1 : List Int) (r2 : Bool) (w : World) (hr0_0 : Kd.C (Kd.int .i64) w A0_0 l0_0.length l0_0) (hc0_0 : l0_0.length ≤ c0_0) (h : impl_ReflectOrbit.f k l0_0 a0_1 a1 = some (r1, r2)) :
    Calls Tryz.prog 16 #[.agg #[.slice A0_0 l0_0.length c0_0, .bool a0_1], .int .i64 a1] w fun e w' => ∃ v0_ : Value, e = .returned (.tuple #[v0_, .bool r2]) ∧ Kd.R (Kd.int .i64) 3 w' w.heap.size (fun _ => True) v0_ r1 ∧ Below w.heap.size w w' := by
  have hu28 := Tryz.underlying26
  unfold impl_ReflectOrbit.f at h
  obtain ⟨t, ht, h⟩ := Option.bind_eq_some_iff.1 h
  have HT := Aside0.mk ht
  have HR := Aside0.mk hr0_0
  have HC := Aside0.mk hc0_0
  have HH := Aside0.mk h
  clear hr0_0 hc0_0 h ht
  cases t
  all_goals
    go_enter Tryz.func16, Tryz.ntmps16
    go_wp2_with (first
      | ((with_reducible refine gate_dst (N := 2) rfl ?_); refine box_event ?hg (N := 2) ?hd (cs := #[.slice A0_0 l0_0.length c0_0, .bool a0_1]) (t := 26) ?hr ?_; (case hd => rfl); (case hg => rfl); (case hr => first | (go_simp; done) | (go_simp; rfl)); intro gb hgb w10 hbox hb; have BK := Aside0.mk hbox; have HB0 := Aside0.mk hb; clear hgb; have hgl : gb < w10.heap.size := blk_lt BK.out; have hx0 : w10.cell? ⟨gb, 0, none⟩ = some (.slice A0_0 l0_0.length c0_0) := (blk_cell BK.out 0).trans rfl; have hx1 : w10.cell? ⟨gb, 1, none⟩ = some (.bool a0_1) := (blk_cell BK.out 1).trans rfl; clear hbox hb)
      | ((with_reducible refine gate_dst (N := 8) rfl ?_); refine Kd.R_lit (Kd.int .i64) _ 3 ?hg (N := 8) ?hd (xs := ([a1] : List Int)) (inner := [.int .i64 a1]) (ok := fun _ => True) (okp := fun _ => True) ?hr ?hp (fun _ hk => hk) trivial (Below.refl _ _) (Nat.le_refl _) (by simp) ?_; (case hd => rfl); (case hg => rfl); (case hr => first | (go_simp; done) | (go_simp; rfl)); (case hp => exact (Reps.one (show Kd.M (Kd.int .i64) _ _ _ a1 [.int .i64 a1] from rfl) (Reps.none _ _))); intro v1 w3 ho3 hb3 hg3 hnew3; obtain ⟨A3, c3, rfl, hl3, hC3⟩ := Kd.R_reads ho3; have HB3 := Aside0.mk hb3; have HC3 := Aside0.mk hC3; have HL3 := Aside0.mk hl3; clear ho3 hb3 hg3 hnew3 hC3 hl3)
      | (go_at_call 33; refine (impl_isLit.calls k A0_0 c0_0 l0_0 a0_1 A3 c3 [a1] _ w3 (Kd.C_below HR.out (below_step HB0.out HB3.out)) HC.out HC3.out HL3.out HT.out).mono ?_; rintro e w5 ⟨rfl, hb5⟩; have HB5 := Aside0.mk (below_step HB3.out hb5); clear hb5; have hy0 : w5.cell? ⟨gb, 0, none⟩ = some (.slice A0_0 l0_0.length c0_0) := (HB5.out.cell (p := ⟨gb, 0, none⟩) hgl).trans hx0; have hy1 : w5.cell? ⟨gb, 1, none⟩ = some (.bool a0_1) := (HB5.out.cell (p := ⟨gb, 1, none⟩) hgl).trans hx1; clear hx0 hx1))
  · have H := HH.out
    simp only [Bool.false_eq_true, if_false, Option.some.injEq, Prod.mk.injEq] at H
    obtain ⟨rfl, rfl⟩ := H
    go_ret2
    exact ⟨_, rfl, Kd.R_nil _ _ _ _ _, below_step HB0.out HB5.out⟩
  · have H := HH.out
    simp only [if_true] at H
    obtain ⟨o, ho, H⟩ := Option.bind_eq_some_iff.1 H
    simp only [Option.some.injEq, Prod.mk.injEq] at H
    obtain ⟨rfl, rfl⟩ := H
    have hB := below_step HB0.out HB5.out
    have hr5 := Kd.C_below HR.out hB
    refine (impl_Graph_orbit.calls k 42 _ _ (Go.Proofs.enters_of Tryz.func42 (by kernel_rfl) rfl) A0_0 c0_0 l0_0 a0_1 a1 o w5 (impl_ReflectOrbit.move A0_0 c0_0 l0_0 a0_1 w5 hr5 HC.out) hr5 ho).mono ?_
    rintro e w6 ⟨v6, rfl, hr6, hb6⟩
    have HO6 := Aside0.mk (Kd.R_lower hr6 hB.size)
    have HB6 := Aside0.mk (below_step hB hb6)
    clear hr6 hb6 hB hr5 ho hy0 hy1
    go_wp2
    go_ret2
    exact ⟨_, rfl, HO6.out, HB6.out⟩
end Go.Proofs.YtjocpjjimhefjaaGreat.PFnFormStays
