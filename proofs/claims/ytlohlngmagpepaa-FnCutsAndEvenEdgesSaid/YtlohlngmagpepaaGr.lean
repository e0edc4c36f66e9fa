-- Laws on arguments that hold a slice in a struct (this session's own words).
import Derived.ProofKit
import Derived.OpenShut
import Derived.SizedLaws
import Derived.ChangeOld
import Derived.Lib.SmallJoins
import Derived.Deep.Fields
import Derived.Test.YtlohlngmagpepaaVWords
namespace Go.Proofs.YtlohlngmagpepaaGr
open Go.ChangeShapes Go.WideShapes Go.RowKit Go.Joins Go.Deep
variable {H : Type} {enc : TypeId × Value → H} {P : Program} {W : World} {base : Nat} {spare : Nat → Bool} {held : Bool}
def IsRow (k : IntKind) (w : World) (a : Option Addr) (len cap : Nat) (z : List Int) : Prop :=
  (a = none ∧ len = 0 ∧ cap = 0 ∧ z = []) ∨ ∃ x, a = some x ∧ len ≤ cap ∧ cap ≤ maxLen ∧ z.length = cap ∧ (∀ i, i < z.length → w.cell? (x.add i) = some (.int k (z.getD i 0))) ∧ ∀ n ∈ z, (Lit.int k n).wf = true
theorem row_of {t e : TypeId} {k : IntKind} {n : Nat} {c : Value} {y : DataW H × List MemPlace} (ht : P.underlying t = some (.slice e)) (he : P.underlying e = some (.int k)) (hc : P.cellsOf e = 1)
    (h : DataW.trod enc P W 0 (fun _ => true) true n t [c] = some y) : ∃ a len cap z, c = .slice a len cap ∧ IsRow k W a len cap z := by
  rcases open_ints ht he hc h with ⟨hcs, _⟩ | ⟨x, l, cp, zs, hcs, _, hl, hm, hz, _, hcell, hwz⟩
  · injection hcs with hcs
    exact ⟨_, _, _, [], hcs, .inl ⟨rfl, rfl, rfl, rfl⟩⟩
  · injection hcs with hcs
    exact ⟨_, _, _, zs, hcs, .inr ⟨_, rfl, hl, hm, by simpa using hz, hcell, hwz⟩⟩
theorem sized_in {ts : List TypeId} {ds : List (DataW H)} {j : Nat} {t : TypeId} {fs : Array Field} {ys : List (DataW H)} (hsz : (DataW.weightsEach P ts ds).all (· ≤ reachBytes) = true) (ht : ts[j]? = some t) (hd : ds[j]? = some (.agg ys))
    (hs : P.underlying t = some (.struct fs)) : (DataW.weightsEach P (fs.toList.map (·.type)) ys).all (· ≤ reachBytes) = true := by
  refine List.all_eq_true.2 fun n hn => List.all_eq_true.1 hsz n (DataW.weights_mem_each ht hd n ?_)
  simpa [DataW.weights, hs] using hn
/-- A struct of a slice of whole numbers and a bool. -/
theorem graph_of {ts : List TypeId} {ds : List (DataW H)} {j : Nat} {t e : TypeId} {f0 f1 : Field} {v : Value} {d : DataW H} {p : List MemPlace} {r : Reach} {b0 : Nat}
    (hs : P.underlying t = some (.struct #[f0, f1])) (hone : oneCellFields P #[f0, f1] = true) (hC : P.cellsOf t = 2) (hf0 : P.underlying f0.type = some (.slice e)) (he : P.underlying e = some (.int .i64)) (hc : P.cellsOf e = 1) (hb : P.bytesOf e = 8) (hf1 : P.underlying f1.type = some .bool)
    (hsz : (DataW.weightsEach P ts ds).all (· ≤ reachBytes) = true) (ht : ts[j]? = some t) (hd : ds[j]? = some d) (hv : Value.okWide P W r b0 t v) (h : DataW.Trod enc P W 0 (fun _ => true) true t v d p) :
    ∃ a len cap z b, v = .agg #[.slice a len cap, .bool b] ∧ IsRow .i64 W a len cap z ∧ len * 8 ≤ 140737488351232 := by
  obtain ⟨v0, v1, y0, y1, n, rfl, rfl, rfl, h0, h1⟩ := open_agg2 hs hone hC hv h
  obtain ⟨a, len, cap, z, rfl, hr⟩ := row_of hf0 he hc h0
  obtain ⟨b, hb1, _⟩ := DataW.trod_bool hf1 h1
  injection hb1 with hb1
  subst hb1
  exact ⟨a, len, cap, z, b, rfl, hr, Go.Proofs.YtlohlngmagpepaaW.PrintWords.sized_ints (sized_in hsz ht hd hs) (j := 0) (t := f0.type) rfl rfl hf0 he hc hb (⟨n, by simpa [Value.cells] using h0⟩ : DataW.Trod enc P W 0 (fun _ => true) true f0.type _ _ _)⟩
/-- A struct of such a struct and a whole number. -/
theorem desk_of {ts : List TypeId} {ds : List (DataW H)} {j : Nat} {t e : TypeId} {f0 f1 g0 g1 : Field} {v : Value} {d : DataW H} {p : List MemPlace} {r : Reach} {b0 : Nat}
    (hs : P.underlying t = some (.struct #[f0, f1])) (hC : P.cellsOf t = 3) (ho0 : f0.offset = 0) (ho1 : f1.offset = 2) (hq0 : P.cellsOf f0.type = 2) (hq1 : P.cellsOf f1.type = 1) (hg : P.underlying f0.type = some (.struct #[g0, g1])) (hr0 : g0.offset = 0) (hr1 : g1.offset = 1) (hk0 : P.cellsOf g0.type = 1) (hk1 : P.cellsOf g1.type = 1)
    (hf0 : P.underlying g0.type = some (.slice e)) (he : P.underlying e = some (.int .i64)) (hc : P.cellsOf e = 1) (hb : P.bytesOf e = 8) (hf1 : P.underlying g1.type = some .bool) (hi : P.underlying f1.type = some (.int .i64))
    (hsz : (DataW.weightsEach P ts ds).all (· ≤ reachBytes) = true) (ht : ts[j]? = some t) (hd : ds[j]? = some d) (hv : Value.okWide P W r b0 t v) (h : DataW.Trod enc P W 0 (fun _ => true) true t v d p) :
    ∃ a len cap z b x, v = .agg #[.slice a len cap, .bool b, .int .i64 x] ∧ IsRow .i64 W a len cap z ∧ len * 8 ≤ 140737488351232 ∧ (Lit.int .i64 x).wf = true := by
  obtain ⟨cs, rfl, hcs⟩ := okWide_struct hs hv
  obtain ⟨c0, c1, c2, rfl⟩ := array3 (hcs.trans hC)
  obtain ⟨fuel, hf⟩ := h
  obtain ⟨y0, y1, n, hx, _, h0, h1⟩ := trod_struct2 hs hf
  simp only [Value.cells, ho0, ho1, hq0, hq1, List.drop_zero, List.drop_succ_cons, List.take_succ_cons, List.take_zero] at h0 h1
  obtain ⟨z0, z1, m, hy, _, k0, k1⟩ := trod_struct2 hg h0
  simp only [hr0, hr1, hk0, hk1, List.drop_zero, List.drop_succ_cons, List.take_succ_cons, List.take_zero] at k0 k1
  obtain ⟨a, len, cap, z, rfl, hr⟩ := row_of hf0 he hc k0
  obtain ⟨b, hb1, _⟩ := DataW.trod_bool hf1 k1
  injection hb1 with hb1
  subst hb1
  obtain ⟨x, hx1, _, wx⟩ := DataW.trod_int hi h1
  injection hx1 with hx1
  subst hx1
  simp only [Prod.mk.injEq] at hx
  subst hy
  obtain ⟨rfl, _⟩ := hx
  exact ⟨a, len, cap, z, b, x, rfl, hr, Go.Proofs.YtlohlngmagpepaaW.PrintWords.sized_ints (sized_in (sized_in hsz ht hd hs) (j := 0) (t := f0.type) rfl rfl hg) (j := 0) (t := g0.type) rfl rfl hf0 he hc hb (⟨m, by simpa [Value.cells] using k0⟩ : DataW.Trod enc P W 0 (fun _ => true) true g0.type _ _ _), wx⟩
end Go.Proofs.YtlohlngmagpepaaGr
