-- Written by a program of this session (wip/tools/mp.py) around the kit's printer; Lean checks it.
import Derived.Test.YtjkijnggjjoheaaPFnLitPressesx0
import Derived.Test.YtjkijnggjjoheaaPFnLitPressesx3
import Derived.Test.YtjkijnggjjoheaaPFnLitPressesx5
import Derived.Carry
import Derived.Laws.Append
import Derived.Laws.CopyRow
import Derived.Maps.OwnOps
import Derived.Maps.OwnSet
import Derived.Maps.Views
import Derived.StillTailTactics
namespace Go.Proofs.Ytjkijnggjjoheaa.PFnLitPresses
open Go.RowKit Go.Proofs.YtjkijnggjjoheaaW.PrintWords Go.Proofs.YtjkijnggjjoheaaW.PrintLast Go.Proofs.YtjkijnggjjoheaaW.PrintMore
attribute [local go_sem] max2_int min2_int max_two min_two max_three min_three max_four min_four   -- for this text's walks alone
set_option linter.unusedVariables false
set_option linter.unusedSimpArgs false

/-! ### impl_WayTo: function 26 -/
-- MANUAL
/-! A map of whole numbers to whole numbers that the call makes; a queue that is cut at its head. -/
def look (m : List (Int × Int)) (x : Int) : Option Int := (m.find? fun p => p.1 == x).map Prod.snd
theorem look_snoc {m : List (Int × Int)} {t v : Int} (h : look m t = none) (x : Int) : look (m ++ [(t, v)]) x = if x = t then some v else look m x := by
  unfold look at h ⊢
  rw [List.find?_append]
  by_cases e : x = t
  · subst e
    rw [if_pos rfl]
    have : m.find? (fun p => p.1 == x) = none := by simpa using h
    rw [this]
    simp
  · rw [if_neg e]
    have h1 : ([(t, v)] : List (Int × Int)).find? (fun p => p.1 == x) = none := by
      have : (t == x) = false := by simp [Ne.symm e]
      simp [List.find?_cons, this]
    rw [h1]
    cases m.find? (fun p => p.1 == x) <;> rfl
def Far (W : World) (b : Nat) (m : List (Int × Int)) : Prop :=
  ∃ (n : Nat) (D : DataW Unit), W.ownsMap Try.prog 3 (plainElem Try.prog 3) b n D ∧ n ≤ m.length ∧ ∀ x, (Lit.int .i64 x).wf = true → D.atKey (.int .i64 x) (.lit (.int .i64 0)) = .lit (.int .i64 ((look m x).getD 0)) ∧ Go.Maps.has D (.int .i64 x) = (look m x).isSome
theorem Far.made (W : World) : Far (W.alloc (.map #[] 0)) W.heap.size [] := ⟨0, _, World.ownsMap_made W _ _ _, Nat.le_refl _, fun _ _ => ⟨rfl, rfl⟩⟩
theorem Far.lt {W : World} {b : Nat} {m : List (Int × Int)} (h : Far W b m) : b < W.heap.size := by
  obtain ⟨n, D, ho, _⟩ := h
  exact ho.lt
theorem Far.kept {W W2 : World} {b : Nat} {m : List (Int × Int)} {row : Option Nat} (h : Far W b m) (hg : W.grownBy W2 row) (hne : some b ≠ row) : Far W2 b m := by
  obtain ⟨n, D, ho, h2⟩ := h
  exact ⟨n, D, ho.kept hg hne, h2⟩
theorem Far.below {W W2 : World} {b : Nat} {m : List (Int × Int)} (h : Far W b m) (hb : Below W.heap.size W W2) : Far W2 b m := h.kept (grown_of_below hb none) (by simp)
theorem Far.key {t : Int} (hw : (Lit.int .i64 t).wf = true) : keyOf Try.prog 3 (.int .i64 t) = some (.int .i64 t) := Maps.keyOf_int_mk Try.underlying3 hw
theorem Far.put {W2 : World} {b n : Nat} {m : List (Int × Int)} {D : DataW Unit} (hm : Go.Maps.IsMap D) (hn : n ≤ m.length) (hat : ∀ x, (Lit.int .i64 x).wf = true → D.atKey (.int .i64 x) (.lit (.int .i64 0)) = .lit (.int .i64 ((look m x).getD 0)) ∧ Go.Maps.has D (.int .i64 x) = (look m x).isSome)
    {t v : Int} (hw : (Lit.int .i64 t).wf = true) (hl : look m t = none) (ho : W2.ownsMap Try.prog 3 (plainElem Try.prog 3) b (n + 1) (D.put (.int .i64 t) (.lit (.int .i64 v)))) : Far W2 b (m ++ [(t, v)]) := by
  refine ⟨n + 1, _, ho, by simp; omega, fun x hx => ?_⟩
  rw [look_snoc hl]
  by_cases e : x = t
  · subst e
    rw [Go.Maps.atKey_put_same hm ((Maps.int_keyed Try.underlying3).key (Far.key hw)), Go.Maps.has_put_same hm ((Maps.int_keyed Try.underlying3).key (Far.key hw)), if_pos rfl]
    exact ⟨rfl, rfl⟩
  · rw [Go.Maps.atKey_put_other (fun h => e (by injection h)), Go.Maps.has_put_other (fun h => e (by injection h)), if_neg e]
    exact hat x hx
section
variable {w : World} {ops : Array Oper} {rest : List Oper} {o : Oper} {a : Act} {Q : Exit → Act → World → Prop}
theorem Far.lookup (hg : o.guard = none) (m x : Operand) (hop : o.op = Op.lookup 68 m x false) (b : Nat) (M : List (Int × Int)) (hm : a.eval m = .map (some b)) (h : Far w b M) (t : Int) (hx : a.eval x = .int .i64 t) (hw : (Lit.int .i64 t).wf = true)
    (hK : wpList Try.prog ops Q rest (a.put o.dst (.int .i64 ((look M t).getD 0))) w) : wpList Try.prog ops Q (o :: rest) a w := by
  obtain ⟨n, D, hown, hn, hat⟩ := h
  refine wpList_lookup_own_int w hg m x _ hop _ _ .i64 (Maps.int_keyed Try.underlying3) Try.underlying68 Try.underlying3 (Try.zeroValue3 w) b n D hm hown _ _ hx (Far.key hw) fun c hc _ => ?_
  rw [(hat t hw).1] at hc
  simp only [DataW.lit.injEq, Lit.int.injEq, true_and] at hc
  rw [← hc]
  exact hK
theorem Far.lookup_ok (hg : o.guard = none) (m x : Operand) (hop : o.op = Op.lookup 68 m x true) (b : Nat) (M : List (Int × Int)) (hm : a.eval m = .map (some b)) (h : Far w b M) (t : Int) (hx : a.eval x = .int .i64 t) (hw : (Lit.int .i64 t).wf = true)
    (c : Int) (q : Bool) (hc : (look M t).getD 0 = c) (hq : (look M t).isSome = q) (hK : wpList Try.prog ops Q rest (a.put o.dst (.tuple #[.int .i64 c, .bool q])) w) : wpList Try.prog ops Q (o :: rest) a w := by
  obtain ⟨n, D, hown, hn, hat⟩ := h
  refine wpList_lookup_own_ok_int w hg m x _ hop _ _ .i64 (Maps.int_keyed Try.underlying3) Try.underlying68 Try.underlying3 (Try.zeroValue3 w) b n D hm hown _ _ hx (Far.key hw) fun c2 hc2 _ => ?_
  rw [(hat t hw).1] at hc2
  simp only [DataW.lit.injEq, Lit.int.injEq, true_and] at hc2
  rw [← hc2, hc, (hat t hw).2, hq]
  exact hK
theorem Far.store_run (b : Nat) (M : List (Int × Int)) (h : Far w b M) (t v : Int) (hw : (Lit.int .i64 t).wf = true) (hv : (Lit.int .i64 v).wf = true) (hl : look M t = none) (hlen : M.length < 17592186044416) :
    ∃ w', (Instr.mapUpdate 68 (.map (some b)) (.int .i64 t) (.int .i64 v)).run Try.prog w = .ok () w' ∧ Far w' b (M ++ [(t, v)]) ∧ w.grownBy w' (some b) := by
  obtain ⟨n, D, hown, hn, hat⟩ := h
  obtain ⟨w', hrun, r1, r2⟩ := hown.update (Maps.int_keyed Try.underlying3) Try.underlying68 (by unfold maxLen; omega) (Far.key hw) (plainElem_int Try.underlying3 hv)
  exact ⟨w', hrun, Far.put (m := M) hown.isMap hn hat hw hl r1, r2⟩
theorem Far.store (hg : o.guard = none) (m x v : Operand) (hop : o.op = Op.mapUpdate 68 m x v) (b : Nat) (M : List (Int × Int)) (hm : a.eval m = .map (some b)) (h : Far w b M) (t : Int) (hx : a.eval x = .int .i64 t) (c : Int) (hv : a.eval v = .int .i64 c) (hw : (Lit.int .i64 t).wf = true) (hwc : (Lit.int .i64 c).wf = true) (hl : look M t = none) (hlen : M.length < 17592186044416)
    (hK : ∀ w', Far w' b (M ++ [(t, c)]) → w.grownBy w' (some b) → wpList Try.prog ops Q rest (a.put o.dst undef) w') : wpList Try.prog ops Q (o :: rest) a w := by
  refine wpList_plain hg fun K' hK' => ?_
  obtain ⟨w', hrun, r1, r2⟩ := Far.store_run b M h t c hw hwc hl hlen
  unfold Oper.wp
  simp [execOp, hop, hm, hx, hv, hrun, Result.andThen]
  exact hK' _ _ (hK w' r1 r2)
theorem Far.insert (hg : o.guard = none) (m x v : Operand) (hop : o.op = Op.insert 68 m x v) (b : Nat) (M : List (Int × Int)) (hm : a.eval m = .map (some b)) (h : Far w b M) (t : Int) (hx : a.eval x = .int .i64 t) (c : Int) (hv : a.eval v = .int .i64 c) (hw : (Lit.int .i64 t).wf = true) (hwc : (Lit.int .i64 c).wf = true) (hl : look M t = none) (hlen : M.length < 17592186044416)
    (hK : ∀ w', Far w' b (M ++ [(t, c)]) → w.grownBy w' (some b) → wpList Try.prog ops Q rest (a.put o.dst undef) w') : wpList Try.prog ops Q (o :: rest) a w := by
  refine wpList_plain hg fun K' hK' => ?_
  obtain ⟨w', hrun, r1, r2⟩ := Far.store_run b M h t c hw hwc hl hlen
  unfold Oper.wp
  simp [execOp, hop, hm, hx, hv, hrun, Result.andThen]
  exact hK' _ _ (hK w' r1 r2)
/-- A row of whole numbers of the call's own, somewhere in its block. -/
def Qu (W : World) (base : Nat) (v : Value) (xs : List Int) : Prop :=
  ∃ (g off cap : Nat) (cur : Array Value), v = .slice (some ⟨g, off, none⟩) xs.length cap ∧ base ≤ g ∧ W.heap[g]? = some (.cells cur 3 (0, 0)) ∧ xs.length ≤ cap ∧ off + cap ≤ cur.size ∧ (cur.toList.drop off).take xs.length = xs.map (Value.int .i64)
theorem Qu.kept {W W2 : World} {base : Nat} {v : Value} {xs : List Int} {row : Option Nat} (h : Qu W base v xs) (hg : W.grownBy W2 row) (hne : ∀ k, row = some k → k < base) : Qu W2 base v xs := by
  obtain ⟨g, off, cap, cur, rfl, hb, hgg, r⟩ := h
  refine ⟨g, off, cap, cur, rfl, hb, ?_, r⟩
  rw [hg.block g (Array.getElem?_eq_some_iff.1 hgg).1 (fun e => by have := hne g e.symm; omega)]
  exact hgg
theorem Qu.below {W W2 : World} {base : Nat} {v : Value} {xs : List Int} (h : Qu W base v xs) (hb : Below W.heap.size W W2) : Qu W2 base v xs := h.kept (grown_of_below hb none) (by simp)
theorem off_plain (g off j : Nat) : (⟨g, off, none⟩ : Addr).add j = ⟨g, off + j, none⟩ := by unfold Addr.add; split <;> simp_all
theorem Qu.holds {W : World} {g off : Nat} {cur : Array Value} {xs : List Int} (hgg : W.heap[g]? = some (.cells cur 3 (0, 0))) (ht : (cur.toList.drop off).take xs.length = xs.map (Value.int .i64)) : ∀ j u, (xs.map (Value.int .i64))[j]? = some u → W.cell? ((⟨g, off, none⟩ : Addr).add j) = some u := by
  intro j u hu
  rw [off_plain, cell_of_row W g (off + j) cur _ (0, 0) hgg]
  rw [← ht, List.getElem?_take] at hu
  split at hu
  · rw [List.getElem?_drop] at hu
    simpa using hu
  · cases hu
theorem Qu.reads {W : World} {base : Nat} {v : Value} {xs : List Int} (h : Qu W base v xs) : ∃ A c, v = .slice (some A) xs.length c ∧ A.add 0 = A ∧ ∀ j (hj : j < xs.length), W.cell? (A.add j) = some (.int .i64 xs[j]) := by
  obtain ⟨g, off, cap, cur, rfl, hb, hgg, hlc, hsz, ht⟩ := h
  exact ⟨_, cap, rfl, off_plain g off 0, fun j hj => Qu.holds hgg ht j _ (by simp [List.getElem?_eq_getElem hj])⟩
theorem Qu.of_R {W : World} {base : Nat} {ok : Nat → Prop} {v : Value} {xs : List Int} (h : Kd.R (Kd.int .i64) 3 W base ok v xs) (hn : 0 < xs.length) : Qu W base v xs := by
  obtain ⟨_, inner, ho, hr⟩ := h
  have hi : inner = xs.map (Value.int .i64) := by
    apply List.ext_getElem?
    intro j
    have hl : inner.length = xs.length := by have := hr.1; simpa [Kd.int, Kd.scalar] using this
    rcases Nat.lt_or_ge j xs.length with hj | hj
    · have h2 := hr.2 j _ (List.getElem?_eq_getElem hj)
      have hl2 : j < inner.length := by omega
      have h3 : (inner.drop (j * 1)).take 1 = [Value.int .i64 xs[j]] := h2
      rw [Nat.mul_one, List.drop_eq_getElem_cons hl2, List.take_succ_cons, List.take_zero] at h3
      rw [List.getElem?_eq_getElem hl2, List.getElem?_map, List.getElem?_eq_getElem hj, List.singleton_inj.1 h3]
      rfl
    · rw [List.getElem?_eq_none (by omega), List.getElem?_eq_none (by simp; omega)]
  rcases ho.2 with ⟨_, h0⟩ | ⟨g, cap, cur, rfl, hb, hgg, hlc, hm, hs, ht⟩
  · omega
  · refine ⟨g, 0, cap, cur, rfl, hb, hgg, hlc, ?_, ?_⟩
    · rw [hs]; show 0 + cap ≤ cap * 1; omega
    · have hl : (xs.length * (Kd.int IntKind.i64).sz) = xs.length := Nat.mul_one _
      rw [List.drop_zero, ← hi]
      rw [hl] at ht
      exact ht
theorem Qu.tail (hg : o.guard = none) (s : Operand) (hop : o.op = Op.slice 24 s (some (.const (.int .i64 1))) none none) {base : Nat} {v : Value} {x : Int} {xs : List Int} (hs : a.eval s = v) (h : Qu w base v (x :: xs))
    (hK : ∀ v1, Qu w base v1 xs → wpList Try.prog ops Q rest (a.put o.dst v1) w) : wpList Try.prog ops Q (o :: rest) a w := by
  refine wpList_plain hg fun K' hK' => ?_
  obtain ⟨i0, hi, hzz⟩ := Option.map_eq_some_iff.1 (show (Try.prog.info? 3).map (fun i => (i.zero, i.size, i.bytes)) = some (some (.int .i64 0), 1, 8) from info3)
  simp only [Prod.mk.injEq] at hzz
  obtain ⟨_, hz, _⟩ := hzz
  obtain ⟨g, off, cap, cur, rfl, hb, hgg, hlc, hsz, ht⟩ := h
  have hl : 1 ≤ xs.length + 1 := by omega
  have hel : Try.prog.elem 24 = 3 := by kernel_rfl
  have hu : Try.prog.underlying 24 = some (.slice (Try.prog.elem 24)) := by rw [hel]; exact Try.underlying24
  have hrun : (Instr.sliceAt 24 (.slice (some ⟨g, off, none⟩) (x :: xs).length cap) (some (.int .i64 1)) none none).run Try.prog w = .ok (.slice (if cap = 1 then some ⟨g, off, none⟩ else some ⟨g, off + 1, none⟩) xs.length (cap - 1)) w := by
    rw [run_sliceAt_slice w _ _ _ _ _ hu, run_slice_l w _ _ _ _ hu .i64 1 (by omega) (by simp; omega), hel]
    have e1 : (sizeOf 3).run Try.prog w = .ok 1 w := by simp [sizeOf, typeInfo, hi, hz]
    rw [e1]
    have e2 : (Int.toNat 1) = 1 := rfl
    rw [e2]
    simp only [Result.andThen, sliced, List.length_cons, Nat.add_sub_cancel, Option.map_some, Nat.one_mul, off_plain]
  have hev : a.eval (.const (.int .i64 1)) = .int .i64 1 := rfl
  unfold Oper.wp
  simp only [execOp, hop, hs, Option.map_some, Option.map_none, hev, hrun, Result.andThen, Sem.run_bind, Sem.run_pure]
  refine hK' _ _ (hK _ ?_)
  rw [List.length_cons] at hlc ht
  by_cases e : cap = 1
  · subst e
    rw [if_pos rfl]
    have h0 : xs = [] := List.eq_nil_of_length_eq_zero (by omega)
    subst h0
    exact ⟨g, off, _, cur, rfl, hb, hgg, by simp, by omega, by simp⟩
  · rw [if_neg e]
    refine ⟨g, off + 1, _, cur, rfl, hb, hgg, by omega, by omega, ?_⟩
    have h2 := congrArg List.tail ht
    rw [List.map_cons, List.tail_cons] at h2
    rw [← h2, ← List.drop_one, List.drop_take, List.drop_drop]
    simp
theorem Qu.append {W : World} (base : Nat) (hgd : o.guard = none) (s x : Operand) (ho : o.op = .call { callee := .builtin .append, args := #[s, x], argTypes := #[24, 24] })
    (v : Value) (xs : List Int) (p : Int) (hs : a.eval s = v) (hx : a.eval x = .slice (some ⟨W.heap.size, 0, none⟩) 1 1) (HQ : Qu W base v xs) (hbase : base ≤ W.heap.size) (hl : xs.length < 17592186044416)
    (h : ∀ v1 w1, Qu w1 base v1 (xs ++ [p]) → (∃ row, W.grownBy w1 row ∧ ∀ k, row = some k → base ≤ k) → wpList Try.prog ops Q rest (a.put o.dst v1) w1) :
    wpList Try.prog ops Q (o :: rest) a (W.alloc (.cells #[.int .i64 p] 3)) := by
  obtain ⟨i0, hi, hzz⟩ := Option.map_eq_some_iff.1 (show (Try.prog.info? 3).map (fun i => (i.zero, i.size, i.bytes)) = some (some (.int .i64 0), 1, 8) from info3)
  simp only [Prod.mk.injEq] at hzz
  obtain ⟨hz0, hz1, hz2⟩ := hzz
  obtain ⟨g, off, cap, cur, rfl, hb, hgg, hlc, hsz, ht⟩ := HQ
  have hgl : g < W.heap.size := (Array.getElem?_eq_some_iff.1 hgg).1
  have hgg2 : (W.alloc (.cells #[.int .i64 p] 3)).heap[g]? = some (.cells cur 3 (0, 0)) := (heap_alloc_old W _ hgl).trans hgg
  have hnews : ∀ j u, ([Value.int .i64 p] : List Value)[j]? = some u → (W.alloc (.cells #[.int .i64 p] 3)).cell? ((⟨W.heap.size, 0, none⟩ : Addr).add j) = some u := by
    simpa using World.news_of_block (cs := #[Value.int .i64 p]) (t := 3) (fr := (0, 0)) (heap_alloc_new W (.cells #[.int .i64 p] 3))
  have key : ∃ v1 w1, (Builtin.append_ #[24, 24] o.type #[.slice (some ⟨g, off, none⟩) xs.length cap, .slice (some ⟨W.heap.size, 0, none⟩) 1 1]).run Try.prog (W.alloc (.cells #[.int .i64 p] 3)) = .ok v1 w1 ∧ Qu w1 base v1 (xs ++ [p]) ∧ ∃ row, (W.alloc (.cells #[.int .i64 p] 3)).grownBy w1 row ∧ ∀ k, row = some k → base ≤ k := by
    by_cases hroom : xs.length + 1 ≤ cap
    · have hst := run_storeCells_at Try.prog g (off + xs.length) 3 [Value.int .i64 p] 0 cur _ hgg2 (by simp; omega) (by intro u hu; rw [List.mem_singleton.1 hu]; rfl)
      have hf := run_firstCells_some (P := Try.prog) (W.alloc (.cells #[.int .i64 p] 3)) 1 1 ⟨W.heap.size, 0, none⟩ 1 1 [Value.int .i64 p] (by simp) hnews
      simp only [Nat.add_zero] at hst
      have hrr : (Builtin.append_ #[24, 24] o.type #[.slice (some ⟨g, off, none⟩) xs.length cap, .slice (some ⟨W.heap.size, 0, none⟩) 1 1]).run Try.prog (W.alloc (.cells #[.int .i64 p] 3)) = .ok (.slice (some ⟨g, off, none⟩) (xs.length + 1) cap) ((W.alloc (.cells #[.int .i64 p] 3)).setRow g (cur.toList.take (off + xs.length) ++ [Value.int .i64 p] ++ cur.toList.drop (off + xs.length + [Value.int .i64 p].length)).toArray) := by
        simp [Builtin.append_, run_underlying Try.underlying24, sizeOf, typeInfo, hi, hz1, Builtin.lenOf, hroom, hf, off_plain, hst]
      refine ⟨_, _, hrr, ?_, some g, ⟨rfl, rfl, rfl, by simp, fun k hk hne => setRow_other _ g k _ (fun e => hne (by rw [e]))⟩, fun k hk => by injection hk with hk; omega⟩
      refine ⟨g, off, cap, _, by simp, hb, setRow_heap _ g cur _ _ _ hgg2, by simpa using hroom, by simp; omega, ?_⟩
      have hcl : off + xs.length ≤ cur.toList.length := by simp; omega
      have e1 : (cur.toList.take (off + xs.length)).length = off + xs.length := by rw [List.length_take]; omega
      simp only [List.append_assoc]
      rw [List.drop_append_of_le_length (by omega), List.drop_take, Nat.add_sub_cancel_left, ht, ← List.append_assoc]
      have e2 : (xs ++ [p]).length = (xs.map (Value.int IntKind.i64) ++ [Value.int .i64 p]).length := by simp
      rw [e2, List.take_left]
      simp
    · have hr := run_append_grow (P := Try.prog) (W.alloc (.cells #[.int .i64 p] 3)) 24 o.type 3 i0 (.int .i64 0) Try.underlying24 hi hz0 ⟨g, off, none⟩ xs.length cap (xs.map (Value.int .i64)) (by rw [hz1]; simp) (Qu.holds hgg2 ht) ⟨W.heap.size, 0, none⟩ 1 1 [Value.int .i64 p] (by rw [hz1]; simp) hnews (by omega) (by omega) (growslice_fits (by omega) (by rw [hz2]; omega))
      refine ⟨_, _, hr, ?_, none, ⟨rfl, rfl, rfl, by simp, fun k hk _ => heap_alloc_old _ _ (by simpa using hk)⟩, fun k hk => by cases hk⟩
      have hge := grownCap_ge (W.alloc (.cells #[.int .i64 p] 3)) (xs.length + 1) cap 3
      refine ⟨_, 0, _, _, by rw [List.length_append, List.length_singleton]; rfl, ?_, heap_alloc_new (World.drew _) _, by simpa using hge, ?_, ?_⟩
      · simp; omega
      · simp only [Array.size_append, List.size_toArray, List.length_map, size_zeroCells, List.length_singleton, Nat.zero_add]
        have : (Value.int IntKind.i64 0).cells.size = 1 := rfl
        rw [this]
        omega
      · simp only [Array.toList_append, List.drop_zero]
        have e2 : (xs ++ [p]).length = (xs.map (Value.int IntKind.i64) ++ [Value.int .i64 p]).length := by simp
        rw [e2, List.take_left]
        simp
  obtain ⟨v1, w1, hr, hq, row, hgr, hrow⟩ := key
  refine wpList_plain hgd fun _ hK => ?_
  unfold Oper.wp execOp
  simp only [ho, resolve, invoke, builtin, Sem.run_bind, Sem.run_pure, Result.andThen_ok, List.map_toArray, List.map_cons, List.map_nil, hs, hx, hr]
  exact hK _ _ (h v1 w1 hq ⟨row, World.grownBy.trans (World.grownBy_alloc W _ _) hgr, hrow⟩)
end
theorem impl_WayTo.grown {w10 W W2 : World} {row : Option Nat} (h : Below w10.heap.size w10 W) (hg : W.grownBy W2 row) (hb : ∀ k, row = some k → w10.heap.size ≤ k) : Below w10.heap.size w10 W2 :=
  h.grown hg h.size hb
def impl_WayTo.inn (l : List Int) (own : Bool) (s : Int) : Nat → Nat → List Int → List (Int × Int) → Option (List Int × List (Int × Int))
  | 0, _, q, m => some (q, m)
  | d + 1, i, q, m => (impl_Graph_litMove.f l own s (i : Int)).bind fun t => if (Lit.int .i64 t).wf = true then (if (look m t).isSome = true then impl_WayTo.inn l own s d (i + 1) q m else if q.length < 17592186044416 ∧ m.length < 17592186044416 then impl_WayTo.inn l own s d (i + 1) (q ++ [t]) (m ++ [(t, wrap64 ((look m s).getD 0 + 1))]) else none) else none
def impl_WayTo.bfs (l : List Int) (own : Bool) : Nat → List Int → List (Int × Int) → Option (List (Int × Int))
  | 0, _, _ => none
  | _ + 1, [], m => some m
  | f + 1, s :: r, m => if (Lit.int .i64 s).wf = true then (impl_WayTo.inn l own s l.length 0 (s :: r) m).bind fun p => impl_WayTo.bfs l own f p.1.tail p.2 else none
def impl_WayTo.step (l : List Int) (own : Bool) (m : List (Int × Int)) (left : Nat) : Nat → Nat → Int → List Int → Option (List Int × Int)
  | 0, _, s, out => some (out, s)
  | d + 1, i, s, out => (impl_Graph_litMove.f l own s (i : Int)).bind fun t => if (Lit.int .i64 t).wf = true then (if (look m t).isSome = true then (if (look m t).getD 0 = (left : Int) then (if out.length < 17592186044416 then some (out ++ [(i : Int)], t) else none) else impl_WayTo.step l own m left d (i + 1) s out) else impl_WayTo.step l own m left d (i + 1) s out) else none
def impl_WayTo.back (l : List Int) (own : Bool) (m : List (Int × Int)) : Nat → Int → List Int → Option (List Int)
  | 0, _, out => some out
  | n + 1, s, out => (impl_WayTo.step l own m n l.length 0 s out).bind fun p => impl_WayTo.back l own m n p.2 p.1
def impl_WayTo.f (k : Nat) (l0_0 : List Int) (a0_1 : Bool) (a1 a2 : Int) : Option (List Int × Bool) := (impl_isLit.f k l0_0 a0_1 [a1, a2]).bind fun t => if t = true then (if (Lit.int .i64 a2).wf = true ∧ (Lit.int .i64 a1).wf = true then ((impl_WayTo.bfs l0_0 a0_1 k [a2] [(a2, 0)]).bind fun m => if (look m a1).isSome = true then (if 0 ≤ (look m a1).getD 0 ∧ (look m a1).getD 0 < 4611686018427387904 then ((impl_WayTo.back l0_0 a0_1 m ((look m a1).getD 0).toNat a1 []).bind fun o => some (o, true)) else none) else some ([], false)) else none) else some ([], false)
theorem impl_WayTo.bfs_mono (l : List Int) (own : Bool) : ∀ (f : Nat) (q : List Int) (m : List (Int × Int)), LeO (impl_WayTo.bfs l own f q m) (impl_WayTo.bfs l own (f + 1) q m)
  | 0, _, _ => LeO.none _
  | _ + 1, [], _ => LeO.refl _
  | f + 1, s :: r, m => by
    unfold impl_WayTo.bfs
    exact LeO.ite (LeO.bind (LeO.refl _) (fun p => impl_WayTo.bfs_mono l own f _ _)) (LeO.refl _)
theorem impl_WayTo.mono : ∀ a0 a1 a2 a3 k, LeO (impl_WayTo.f k a0 a1 a2 a3) (impl_WayTo.f (k + 1) a0 a1 a2 a3) := fun a0 a1 a2 a3 k =>
  LeO.bind (impl_isLit.mono _ _ _ _) (fun t => LeO.ite (LeO.ite (LeO.bind (impl_WayTo.bfs_mono _ _ _ _ _) (fun _ => LeO.refl _)) (LeO.refl _)) (LeO.refl _))
set_option maxRecDepth 100000 in
set_option maxHeartbeats 4000000 in
theorem impl_WayTo.calls (k : Nat) (A0_0 : Option Addr) (c0_0 : Nat) (l0_0 : List Int) (a0_1 : Bool) (a1 a2 : Int) (r1 : List Int) (r2 : Bool) (w : World) (hr0_0 : Kd.C (Kd.int .i64) w A0_0 l0_0.length l0_0) (hc0_0 : l0_0.length ≤ c0_0) (h : impl_WayTo.f k l0_0 a0_1 a1 a2 = some (r1, r2)) :
    Calls Try.prog 26 #[.agg #[.slice A0_0 l0_0.length c0_0, .bool a0_1], .int .i64 a1, .int .i64 a2] w fun e w' => ∃ v0_ : Value, e = .returned (.tuple #[v0_, .bool r2]) ∧ Kd.R (Kd.int .i64) 3 w' w.heap.size (fun _ => True) v0_ r1 ∧ Below w.heap.size w w' := by
  have hmm := @run_makeMap Try.prog
  have hu28 := Try.underlying26
  have hM := Kd.C_max hr0_0
  unfold impl_WayTo.f at h
  obtain ⟨t, ht, h⟩ := Option.bind_eq_some_iff.1 h
  have HT := Aside0.mk ht
  have HR := Aside0.mk hr0_0
  have HC := Aside0.mk hc0_0
  have HH := Aside0.mk h
  clear hr0_0 hc0_0 h ht
  cases t
  case false =>
    go_enter Try.func26, Try.ntmps26
    go_wp2_with (first
      | ((with_reducible refine gate_dst (N := 3) rfl ?_); refine box_event ?hg (N := 3) ?hd (cs := #[.slice A0_0 l0_0.length c0_0, .bool a0_1]) (t := 26) ?hr ?_; (case hd => rfl); (case hg => rfl); (case hr => first | (go_simp; done) | (go_simp; rfl)); intro gb hgb w10 hbox hb; have BK := Aside0.mk hbox; have HB0 := Aside0.mk hb; clear hgb; have hgl : gb < w10.heap.size := blk_lt BK.out; have hx0 : w10.cell? ⟨gb, 0, none⟩ = some (.slice A0_0 l0_0.length c0_0) := (blk_cell BK.out 0).trans rfl; have hx1 : w10.cell? ⟨gb, 1, none⟩ = some (.bool a0_1) := (blk_cell BK.out 1).trans rfl; clear hbox hb)
      | ((with_reducible refine gate_dst (N := 24) rfl ?_); refine Kd.R_lit (Kd.int .i64) _ 3 ?hg (N := 24) ?hd (xs := ([a1, a2] : List Int)) (inner := [.int .i64 a1, .int .i64 a2]) (ok := fun _ => True) (okp := fun _ => True) ?hr ?hp (fun _ hk => hk) trivial (Below.refl _ _) (Nat.le_refl _) (by simp) ?_; (case hd => rfl); (case hg => rfl); (case hr => first | (go_simp; done) | (go_simp; rfl)); (case hp => exact (Reps.snoc (ps := [a1]) (cs := [Value.int IntKind.i64 a1]) (Reps.one (show Kd.M (Kd.int .i64) _ _ _ a1 [.int .i64 a1] from rfl) (Reps.none _ _)) (show Kd.M (Kd.int .i64) _ _ _ a2 [.int .i64 a2] from rfl) rfl)); intro v1 w3 ho3 hb3 hg3 hnew3; obtain ⟨A3, c3, rfl, hl3, hC3⟩ := Kd.R_reads ho3; have HB3 := Aside0.mk hb3; have HC3 := Aside0.mk hC3; have HL3 := Aside0.mk hl3; clear ho3 hb3 hg3 hnew3 hC3 hl3)
      | (go_at_call 35; refine (impl_isLit.calls k A0_0 c0_0 l0_0 a0_1 A3 c3 [a1, a2] _ w3 (Kd.C_below HR.out (below_step HB0.out HB3.out)) HC.out HC3.out HL3.out HT.out).mono ?_; rintro e w5 ⟨rfl, hb5⟩; have HB5 := Aside0.mk (below_step HB3.out hb5); clear hb5; have hy0 : w5.cell? ⟨gb, 0, none⟩ = some (.slice A0_0 l0_0.length c0_0) := (HB5.out.cell (p := ⟨gb, 0, none⟩) hgl).trans hx0; have hy1 : w5.cell? ⟨gb, 1, none⟩ = some (.bool a0_1) := (HB5.out.cell (p := ⟨gb, 1, none⟩) hgl).trans hx1; clear hx0 hx1))
    have H := HH.out
    simp only [Bool.false_eq_true, if_false, Option.some.injEq, Prod.mk.injEq] at H
    obtain ⟨rfl, rfl⟩ := H
    go_ret2
    exact ⟨_, rfl, Kd.R_nil _ _ _ _ _, below_step HB0.out HB5.out⟩
  case true =>
    have H := HH.out
    simp only [if_true] at H
    split at H
    case isFalse => cases H
    next hwf =>
    obtain ⟨M, hM1, H2⟩ := Option.bind_eq_some_iff.1 H
    have HW := Aside0.mk hwf
    have HH1 := Aside0.mk hM1
    have HH2 := Aside0.mk H2
    clear H hwf hM1 H2 HH
    go_enter Try.func26, Try.ntmps26
    go_wp2_with (first
      | ((with_reducible refine gate_dst (N := 3) rfl ?_); refine box_event ?hg (N := 3) ?hd (cs := #[.slice A0_0 l0_0.length c0_0, .bool a0_1]) (t := 26) ?hr ?_; (case hd => rfl); (case hg => rfl); (case hr => first | (go_simp; done) | (go_simp; rfl)); intro gb hgb w10 hbox hb; have BK := Aside0.mk hbox; have HB0 := Aside0.mk hb; clear hgb; have hgl : gb < w10.heap.size := blk_lt BK.out; have hx0 : w10.cell? ⟨gb, 0, none⟩ = some (.slice A0_0 l0_0.length c0_0) := (blk_cell BK.out 0).trans rfl; have hx1 : w10.cell? ⟨gb, 1, none⟩ = some (.bool a0_1) := (blk_cell BK.out 1).trans rfl; clear hbox hb)
      | ((with_reducible refine gate_dst (N := 24) rfl ?_); refine Kd.R_lit (Kd.int .i64) _ 3 ?hg (N := 24) ?hd (xs := ([a1, a2] : List Int)) (inner := [.int .i64 a1, .int .i64 a2]) (ok := fun _ => True) (okp := fun _ => True) ?hr ?hp (fun _ hk => hk) trivial (Below.refl _ _) (Nat.le_refl _) (by simp) ?_; (case hd => rfl); (case hg => rfl); (case hr => first | (go_simp; done) | (go_simp; rfl)); (case hp => exact (Reps.snoc (ps := [a1]) (cs := [Value.int IntKind.i64 a1]) (Reps.one (show Kd.M (Kd.int .i64) _ _ _ a1 [.int .i64 a1] from rfl) (Reps.none _ _)) (show Kd.M (Kd.int .i64) _ _ _ a2 [.int .i64 a2] from rfl) rfl)); intro v1 w3 ho3 hb3 hg3 hnew3; obtain ⟨A3, c3, rfl, hl3, hC3⟩ := Kd.R_reads ho3; have HB3 := Aside0.mk hb3; have HC3 := Aside0.mk hC3; have HL3 := Aside0.mk hl3; clear ho3 hb3 hg3 hnew3 hC3 hl3)
      | (go_at_call 35; refine (impl_isLit.calls k A0_0 c0_0 l0_0 a0_1 A3 c3 [a1, a2] _ w3 (Kd.C_below HR.out (below_step HB0.out HB3.out)) HC.out HC3.out HL3.out HT.out).mono ?_; rintro e w5 ⟨rfl, hb5⟩; have HB5 := Aside0.mk (below_step HB3.out hb5); clear hb5; have hy0 : w5.cell? ⟨gb, 0, none⟩ = some (.slice A0_0 l0_0.length c0_0) := (HB5.out.cell (p := ⟨gb, 0, none⟩) hgl).trans hx0; have hy1 : w5.cell? ⟨gb, 1, none⟩ = some (.bool a0_1) := (HB5.out.cell (p := ⟨gb, 1, none⟩) hgl).trans hx1; clear hx0 hx1)
      | (refine Far.insert rfl (.tmp 27) (.tmp 28) (.const (.int .i64 0)) rfl w5.heap.size [] rfl (Far.made w5) a2 rfl 0 rfl HW.out.1 rfl rfl (by simp) ?_; intro w6 hm6 hg6; have HM6 := Aside0.mk hm6; have HG6 := Aside0.mk hg6; clear hm6 hg6)
      | ((with_reducible refine gate_dst (N := 31) rfl ?_); refine Kd.R_lit (Kd.int .i64) _ 3 ?hg (N := 31) ?hd (xs := ([a2] : List Int)) (inner := [.int .i64 a2]) (ok := fun _ => True) (okp := fun _ => True) ?hr ?hp (fun _ hk => hk) trivial (Below.refl _ _) (Nat.le_refl _) (by simp) ?_; (case hd => rfl); (case hg => rfl); (case hr => first | (go_simp; done) | (go_simp; rfl)); (case hp => exact (Reps.one (show Kd.M (Kd.int .i64) _ _ _ a2 [.int .i64 a2] from rfl) (Reps.none _ _))); intro v7 w7 ho7 hb7 hg7 hnew7; have HO7 := Aside0.mk ho7; have HB7 := Aside0.mk hb7; clear ho7 hb7 hg7 hnew7))
    have hsz := HB5.out.size
    have HQ7 := Aside0.mk (Qu.of_R HO7.out (by simp))
    have HM7 := Aside0.mk (HM6.out.below HB7.out)
    have hba := below_alloc HB5.out (.map #[] 0)
    have HB8 := Aside0.mk (below_step (hba.grown HG6.out hba.size (fun k hk => by injection hk with hk; omega)) HB7.out)
    have h67 := HB7.out.size
    have h56 : w5.heap.size < w6.heap.size := HM6.out.lt
    clear hba HO7 HM6 HG6 HB7
    go_loopg [9] k (fun kq v9 wr => ∃ (q : List Int) (m : List (Int × Int)), Aside0 (impl_WayTo.bfs l0_0 a0_1 kq q m = some M) ∧ Aside0 (Qu wr w6.heap.size v9 q) ∧ Aside0 (Far wr w5.heap.size m) ∧ Aside0 (Below w10.heap.size w10 wr) ∧ Aside0 (w6.heap.size ≤ wr.heap.size))
    case atStart => exact ⟨[a2], [(a2, 0)], HH1, HQ7, HM7, HB8, ⟨h67⟩⟩
    case round =>
      obtain ⟨q, m, HA, HQ, HM, HB, HZ⟩ := hrel
      clear HH1 HQ7 HM7 HB8 h67 hy0 hy1
      have hx0 : wr.cell? ⟨gb, 0, none⟩ = some (.slice A0_0 l0_0.length c0_0) := (HB.out.cell (p := ⟨gb, 0, none⟩) hgl).trans ((blk_cell BK.out 0).trans rfl)
      have hx1 : wr.cell? ⟨gb, 1, none⟩ = some (.bool a0_1) := (HB.out.cell (p := ⟨gb, 1, none⟩) hgl).trans ((blk_cell BK.out 1).trans rfl)
      obtain ⟨A9, c9, rfl, hA9, hC9⟩ := HQ.out.reads
      cases gk with
      | zero => exact absurd HA.out (by simp [impl_WayTo.bfs])
      | succ k1 =>
        cases q with
        | nil =>
          have e1 : m = M := by have := HA.out; simpa [impl_WayTo.bfs] using this
          subst e1
          have H := HH2.out
          clear HH2 HA hC9 hA9 HQ
          rw [List.length_nil]
          cases q : (look m a1).isSome
          · rw [q, if_neg (by decide)] at H
            simp only [Option.some.injEq, Prod.mk.injEq] at H
            obtain ⟨rfl, rfl⟩ := H
            have HQ0 := Aside0.mk q
            clear q
            go_wp2_with (refine Far.lookup_ok rfl (.tmp 71) (.tmp 72) rfl w5.heap.size m rfl HM.out a1 rfl HW.out.2 _ false rfl HQ0.out ?_)
            go_ret2
            exact ⟨_, rfl, Kd.R_nil _ _ _ _ _, below_step HB0.out HB.out⟩
          · rw [q, if_pos rfl] at H
            split at H
            case isFalse => cases H
            next hr =>
            obtain ⟨o, ho, H⟩ := Option.bind_eq_some_iff.1 H
            simp only [Option.some.injEq, Prod.mk.injEq] at H
            obtain ⟨rfl, rfl⟩ := H
            obtain ⟨n, hn⟩ : ∃ n : Nat, (look m a1).getD 0 = (n : Int) := ⟨_, (Int.toNat_of_nonneg hr.1).symm⟩
            rw [hn] at ho hr
            rw [Int.toNat_natCast] at ho
            have HQ0 := Aside0.mk q
            have HN := Aside0.mk hn
            have HO1 := Aside0.mk ho
            have hnb : (n : Int) < 4611686018427387904 := hr.2
            clear q hn ho hr
            go_wp2_with (first
              | (refine Far.lookup_ok rfl (.tmp 71) (.tmp 72) rfl w5.heap.size m rfl HM.out a1 rfl HW.out.2 (n : Int) true HN.out HQ0.out ?_)
              | ((with_reducible refine gate_dst (N := 78) rfl ?_); refine Kd.R_lit (w0 := w10) (Kd.int .i64) w10.heap.size 3 ?hg (N := 78) ?hd (xs := ([] : List Int)) (inner := []) (ok := fun k_ => k_ ≠ w5.heap.size) (okp := fun k_ => k_ ≠ w5.heap.size) ?hr ?hp (fun _ hk => hk) (Nat.ne_of_gt HM.out.lt) HB.out HB.out.size (by simp) ?_; (case hd => rfl); (case hg => rfl); (case hr => first | (go_simp; done) | (go_simp; rfl)); (case hp => exact Reps.none _ _); intro v12 w12 ho12 hb12 hg12 hnew12; have HO12 := Aside0.mk ho12; have HB12 := Aside0.mk hb12; have HM12 := Aside0.mk (HM.out.kept hg12 (by simp)); clear ho12 hb12 hg12 hnew12 HM HB))
            clear hx0 hx1 HZ
            go_loopg [1, 14, 16] n (fun d v1 v14 v16 wr2 => ∃ (s : Int) (out : List Int), v1 = .int .i64 s ∧ v14 = .int .i64 (d : Int) ∧ Aside0 (impl_WayTo.back l0_0 a0_1 m d s out = some o) ∧ Aside0 (Kd.R (Kd.int .i64) 3 wr2 w10.heap.size (fun k_ => k_ ≠ w5.heap.size) v16 out) ∧ Aside0 (Far wr2 w5.heap.size m) ∧ Aside0 (Below w10.heap.size w10 wr2) ∧ Aside0 (d ≤ n))
            case atStart => exact ⟨a1, [], rfl, rfl, HO1, HO12, HM12, HB12, ⟨Nat.le_refl _⟩⟩
            case round =>
              obtain ⟨s, out, rfl, rfl, HA, HO, HM, HB, HD⟩ := hrel
              clear HO1 HO12 HM12 HB12
              have hx0 : wr.cell? ⟨gb, 0, none⟩ = some (.slice A0_0 l0_0.length c0_0) := (HB.out.cell (p := ⟨gb, 0, none⟩) hgl).trans ((blk_cell BK.out 0).trans rfl)
              have hx1 : wr.cell? ⟨gb, 1, none⟩ = some (.bool a0_1) := (HB.out.cell (p := ⟨gb, 1, none⟩) hgl).trans ((blk_cell BK.out 1).trans rfl)
              cases gk with
              | zero =>
                have e1 : out = o := by have := HA.out; simpa [impl_WayTo.back] using this
                subst e1
                go_wp2
                go_ret2
                exact ⟨_, rfl, Kd.R_lower (Kd.R_mono HO.out (fun _ _ => trivial)) HB0.out.size, below_step HB0.out HB.out⟩
              | succ d =>
                have H := HA.out
                clear HA
                simp only [impl_WayTo.back] at H
                obtain ⟨p, h1, h2⟩ := Option.bind_eq_some_iff.1 H
                have H1 := Aside0.mk h1
                have H2 := Aside0.mk h2
                have hdn : d + 1 ≤ n := HD.out
                obtain ⟨A16, c16, rfl, hl16, hC16⟩ := Kd.R_reads HO.out
                clear hl16 hC16
                clear H h1 h2
                obtain ⟨L, hL⟩ : ∃ L : Int, L = ((d + 1 : Nat) : Int) := ⟨_, rfl⟩
                rw [← hL]
                have hL0 : 0 < L := by omega
                have hL1 : L ≤ 4611686018427387904 := by omega
                have HL := Aside0.mk (show L - 1 = (d : Int) by omega)
                clear hL
                go_wp2
                go_loopg [1, 16, 86] l0_0.length (fun e v1 v16i v86 wr2 => ∃ (i : Nat), v1 = .int .i64 s ∧ v16i = .slice A16 out.length c16 ∧ v86 = .int .i64 i ∧ Aside0 (i + e = l0_0.length) ∧ Aside0 (impl_WayTo.step l0_0 a0_1 m d e i s out = some p) ∧ Aside0 (Kd.R (Kd.int .i64) 3 wr2 w10.heap.size (fun k_ => k_ ≠ w5.heap.size) (.slice A16 out.length c16) out) ∧ Aside0 (Far wr2 w5.heap.size m) ∧ Aside0 (Below w10.heap.size w10 wr2))
                case atStart => exact ⟨0, rfl, rfl, rfl, ⟨by omega⟩, H1, HO, HM, HB⟩
                case round =>
                  clear hx0 hx1 H1 HO HM HB
                  obtain ⟨i, rfl, rfl, rfl, HE, HI, HO, HM, HB⟩ := hrel
                  cases gk with
                  | zero =>
                    have hge : ¬ (i < l0_0.length) := by have := HE.out; omega
                    have e1 : (out, s) = p := by have := HI.out; simpa [impl_WayTo.step] using this
                    have E1 := Aside0.mk e1
                    clear e1
                    go_wp2
                    go_roundg d
                    case measure => omega
                    case rel => exact ⟨s, out, rfl, by rw [HL.out], by have := H2.out; rw [← E1.out] at this; exact ⟨this⟩, HO, HM, HB, ⟨by omega⟩⟩
                  | succ e =>
                    have hlt : i < l0_0.length := by have := HE.out; omega
                    have H := HI.out
                    clear HI
                    unfold impl_WayTo.step at H
                    obtain ⟨t, ht, H⟩ := Option.bind_eq_some_iff.1 H
                    split at H
                    case isFalse => cases H
                    next hw =>
                    have HWt := Aside0.mk hw
                    have HT1 := Aside0.mk ht
                    have hx0 : wr.cell? ⟨gb, 0, none⟩ = some (.slice A0_0 l0_0.length c0_0) := (HB.out.cell (p := ⟨gb, 0, none⟩) hgl).trans ((blk_cell BK.out 0).trans rfl)
                    have hx1 : wr.cell? ⟨gb, 1, none⟩ = some (.bool a0_1) := (HB.out.cell (p := ⟨gb, 1, none⟩) hgl).trans ((blk_cell BK.out 1).trans rfl)
                    clear hw ht
                    have hii : i < 9223372036854775807 := by omega
                    go_wp2_with fail
                    refine (impl_Graph_litMove.calls A0_0 c0_0 l0_0 a0_1 s (i : Int) t wr (Kd.C_below HR.out (below_step HB0.out HB.out)) HC.out HT1.out).mono ?_
                    rintro e8 w8 ⟨rfl, hb8⟩
                    have HO8 := Aside0.mk (Kd.R_below HO.out hb8)
                    have HM8 := Aside0.mk (HM.out.below hb8)
                    have HB8 := Aside0.mk (below_step HB.out hb8)
                    clear hb8 HO HM HB hx0 hx1
                    cases q : (look m t).isSome
                    · rw [q, if_neg (by decide)] at H
                      have HQ0 := Aside0.mk q
                      have HH := Aside0.mk H
                      clear H q
                      go_wp2_with (refine Far.lookup_ok rfl (.tmp 94) (.tmp 95) rfl w5.heap.size m rfl HM8.out t rfl HWt.out _ false rfl HQ0.out ?_)
                      go_roundg e
                      case measure => omega
                      case rel => exact ⟨i + 1, rfl, rfl, by go_num, ⟨by have := HE.out; omega⟩, HH, HO8, HM8, HB8⟩
                    · rw [q, if_pos rfl] at H
                      have HQ0 := Aside0.mk q
                      clear q
                      by_cases c : (look m t).getD 0 = (d : Int)
                      · rw [if_pos c] at H
                        split at H
                        case isFalse => cases H
                        next hsz2 =>
                        have E1 := Aside0.mk (Option.some.inj H)
                        have HS2 := Aside0.mk hsz2
                        have HC2 := Aside0.mk (c.trans HL.out.symm)
                        clear H c hsz2
                        go_wp2_with (first
                          | (refine Far.lookup_ok rfl (.tmp 94) (.tmp 95) rfl w5.heap.size m rfl HM8.out t rfl HWt.out (L - 1) true HC2.out HQ0.out ?_)
                          | ((with_reducible refine gate_builtin (b := .append) (xs := #[.tmp 106, .tmp 108]) rfl ?_); at_builtin; refine Kd.R_append (Kd.int .i64) (w0 := w10) w10.heap.size rfl (.tmp 106) (.tmp 108) 24 3 (.int .i64 0) 8 rfl Try.underlying24 info3 rfl (by decide) (by omega) _ out (i : Int) [.int .i64 (i : Int)] (fun k_ => k_ ≠ w5.heap.size) (fun _ => False) rfl rfl ?aP (fun _ hk => hk.elim) ?aF HO8.out HB8.out HB8.out.size (by have := HS2.out; omega) ?_; (case aP => exact rfl); (case aF => intro k_ hk_ e_; have := HM8.out.lt; omega); intro v11 w11 ho11 hb11 hg11 hat11; have HO11 := Aside0.mk ho11; have HB11 := Aside0.mk hb11; have HM11 := Aside0.mk (HM8.out.kept hg11 (fun e_ => HO8.out.1 _ e_.symm rfl)); clear ho11 hb11 hg11 hat11 HM8 HO8 HB8))
                        go_roundg d
                        case measure => omega
                        case rel => exact ⟨t, out ++ [(i : Int)], rfl, by rw [HL.out], by have := H2.out; rw [← E1.out] at this; exact ⟨this⟩, HO11, HM11, HB11, ⟨by omega⟩⟩
                      · rw [if_neg c] at H
                        have HH := Aside0.mk H
                        clear H
                        obtain ⟨v, hv⟩ : ∃ v, (look m t).getD 0 = v := ⟨_, rfl⟩
                        rw [hv] at c
                        have HV := Aside0.mk hv
                        have cb : (v == L - 1) = false := beq_eq_false_iff_ne.2 (by rw [HL.out]; exact c)
                        clear hv c
                        go_wp2_with (refine Far.lookup_ok rfl (.tmp 94) (.tmp 95) rfl w5.heap.size m rfl HM8.out t rfl HWt.out v true HV.out HQ0.out ?_)
                        go_roundg e
                        case measure => omega
                        case rel => exact ⟨i + 1, rfl, rfl, by go_num, ⟨by have := HE.out; omega⟩, HH, HO8, HM8, HB8⟩
        | cons s r =>
          have H := HA.out
          clear HA
          simp only [impl_WayTo.bfs] at H
          split at H
          case isFalse => cases H
          next hws =>
          obtain ⟨p, h1, h2⟩ := Option.bind_eq_some_iff.1 H
          have H1 := Aside0.mk h1
          have H2 := Aside0.mk h2
          have HWS := Aside0.mk hws
          clear H h1 h2 hC9 hA9 hws
          rw [List.length_cons]
          go_wp2
          go_loopg [9, 40] l0_0.length (fun d v9 v40 wr2 => ∃ (ou : List Int) (mm : List (Int × Int)) (i : Nat), v40 = .int .i64 i ∧ Aside0 (i + d = l0_0.length) ∧ Aside0 (impl_WayTo.inn l0_0 a0_1 s d i (s :: ou) mm = some p) ∧ Aside0 (Qu wr2 w6.heap.size v9 (s :: ou)) ∧ Aside0 (Far wr2 w5.heap.size mm) ∧ Aside0 (Below w10.heap.size w10 wr2) ∧ Aside0 (w6.heap.size ≤ wr2.heap.size))
          case atStart => exact ⟨r, m, 0, rfl, ⟨by omega⟩, H1, HQ, HM, HB, HZ⟩
          case round =>
            clear hx0 hx1
            obtain ⟨ou, mm, i, rfl, HD, HI, HQu, HMu, HBu, HZu⟩ := hrel
            obtain ⟨A8, c8, rfl, hA8, hC8⟩ := HQu.out.reads
            cases gk with
            | zero =>
              have hge : ¬ (i < l0_0.length) := by have := HD.out; omega
              have e1 : (s :: ou, mm) = p := by have := HI.out; simpa [impl_WayTo.inn] using this
              have E1 := Aside0.mk e1
              clear e1 hC8 hA8
              go_wp2_with (refine Qu.tail rfl (.tmp 35) rfl rfl HQu.out ?_; intro v1 hq1; have HQ1 := Aside0.mk hq1; clear hq1)
              go_roundg k1
              case measure => omega
              case rel => exact ⟨ou, mm, by have := H2.out; rw [← E1.out] at this; exact ⟨this⟩, HQ1, HMu, HBu, HZu⟩
            | succ d =>
              have hlt : i < l0_0.length := by have := HD.out; omega
              have H := HI.out
              clear HI
              unfold impl_WayTo.inn at H
              obtain ⟨t, ht, H⟩ := Option.bind_eq_some_iff.1 H
              split at H
              case isFalse => cases H
              next hw =>
              have HWt := Aside0.mk hw
              have HT1 := Aside0.mk ht
              have hx8 : wr.cell? A8 = some (.int .i64 s) := by have := hC8 0 (by simp); rwa [hA8] at this
              have hx0 : wr.cell? ⟨gb, 0, none⟩ = some (.slice A0_0 l0_0.length c0_0) := (HBu.out.cell (p := ⟨gb, 0, none⟩) hgl).trans ((blk_cell BK.out 0).trans rfl)
              have hx1 : wr.cell? ⟨gb, 1, none⟩ = some (.bool a0_1) := (HBu.out.cell (p := ⟨gb, 1, none⟩) hgl).trans ((blk_cell BK.out 1).trans rfl)
              clear hC8 hw ht HQ HM HB HZ H1
              have hii : i < 9223372036854775807 := by omega
              rw [List.length_cons]
              go_wp2
              go_still_tail 5, (by kernel_rfl)
              change wpList _ _ _ _ _ wr.drew
              go_wp2_with fail
              refine (impl_Graph_litMove.calls A0_0 c0_0 l0_0 a0_1 s (i : Int) t wr.drew (Kd.C_below HR.out (below_drew1 (below_step HB0.out HBu.out))) HC.out HT1.out).mono ?_
              rintro e w8 ⟨rfl, hb8⟩
              have hb9 : Below wr.heap.size wr w8 := below_step (below_drew1 (Below.refl wr.heap.size wr)) hb8
              have HQ8 := Aside0.mk (HQu.out.below hb9)
              have HM8 := Aside0.mk (HMu.out.below hb9)
              have HB8 := Aside0.mk (below_step HBu.out hb9)
              have HZ8 := Aside0.mk (Nat.le_trans HZu.out hb9.size)
              have hx9 : w8.cell? A8 = some (.int .i64 s) := pw_cell_below hb9 hx8
              clear hb8 hb9 HQu HMu HBu HZu hx8 hx0 hx1
              cases q : (look mm t).isSome
              · rw [q, if_neg (by decide)] at H
                split at H
                case isFalse => cases H
                next hsz2 =>
                have HN := Aside0.mk (show look mm t = none by simpa using q)
                have HQ0 := Aside0.mk q
                have HS2 := Aside0.mk hsz2
                have HH := Aside0.mk H
                clear H q hsz2
                go_wp2_with (first
                  | (refine Far.lookup_ok rfl (.tmp 50) (.tmp 51) rfl w5.heap.size mm rfl HM8.out t rfl HWt.out _ false rfl HQ0.out ?_)
                  | (refine Far.lookup rfl (.tmp 59) (.tmp 62) rfl w5.heap.size mm rfl HM8.out s rfl HWS.out ?_)
                  | (refine Far.store rfl (.tmp 57) (.tmp 58) (.tmp 64) rfl w5.heap.size mm rfl HM8.out t rfl (wrap64 ((look mm s).getD 0 + 1)) rfl HWt.out (wrap64_wf _) HN.out HS2.out.2 ?_; intro w9 hm9 hg9; have HM9 := Aside0.mk hm9; have HQ9 := Aside0.mk (HQ8.out.kept hg9 (fun k_ hk_ => by injection hk_ with hk_; omega)); have HB9 := Aside0.mk (impl_WayTo.grown HB8.out hg9 (fun k_ hk_ => by injection hk_ with hk_; omega)); have HZ9 := Aside0.mk (Nat.le_trans HZ8.out hg9.size); clear hm9 hg9 HM8 HQ8 HB8 HZ8)
                  | ((with_reducible refine gate_builtin (b := .append) (xs := #[.tmp 65, .tmp 67]) rfl ?_); at_builtin; refine Qu.append w6.heap.size rfl (.tmp 65) (.tmp 67) rfl _ (s :: ou) t rfl rfl HQ9.out HZ9.out HS2.out.1 ?_; intro v10 w10' hq10 hg10; obtain ⟨row, hg10, hr10⟩ := hg10; have HQ10 := Aside0.mk hq10; have HM10 := Aside0.mk (HM9.out.kept hg10 (fun e_ => by have := hr10 _ e_.symm; omega)); have HB10 := Aside0.mk (impl_WayTo.grown HB9.out hg10 (fun k_ hk_ => by have := hr10 _ hk_; omega)); have HZ10 := Aside0.mk (Nat.le_trans HZ9.out hg10.size); clear hq10 hg10 hr10 HQ9 HM9 HB9 HZ9))
                go_roundg d
                case measure => omega
                case rel => exact ⟨ou ++ [t], _, i + 1, by go_num, ⟨by have := HD.out; omega⟩, HH, HQ10, HM10, HB10, HZ10⟩
              · rw [q, if_pos rfl] at H
                have HQ0 := Aside0.mk q
                have HH := Aside0.mk H
                clear H q
                go_wp2_with (refine Far.lookup_ok rfl (.tmp 50) (.tmp 51) rfl w5.heap.size mm rfl HM8.out t rfl HWt.out _ true rfl HQ0.out ?_)
                go_roundg d
                case measure => omega
                case rel => exact ⟨ou, mm, i + 1, by go_num, ⟨by have := HD.out; omega⟩, HH, HQ8, HM8, HB8, HZ8⟩

end Go.Proofs.Ytjkijnggjjoheaa.PFnLitPresses
