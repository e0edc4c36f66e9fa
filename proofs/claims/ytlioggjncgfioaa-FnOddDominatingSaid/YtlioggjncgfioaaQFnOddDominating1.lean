/- What the functions of FnOddDominating compute, in plain words. -/
import Derived.Test.YtlioggjncgfioaaPFnOddDominatingx
import Derived.Test.YtlioggjncgfioaaM1
import Derived.Test.YtlioggjncgfioaaM2
import Derived.Test.YtlioggjncgfioaaM3
import Derived.Test.YtlioggjncgfioaaM4
import Derived.Test.YtlioggjncgfioaaM5
import Derived.Test.YtlioggjncgfioaaM6
import Derived.Test.YtlioggjncgfioaaM7
import Derived.Test.YtlioggjncgfioaaM8
import Derived.Test.YtlioggjncgfioaaM9
import Derived.Test.YtlioggjncgfioaaM10
import Derived.Test.YtlioggjncgfioaaM12
import Derived.Test.YtlioggjncgfioaaM15
import Derived.Test.YtlioggjncgfioaaM17
import Derived.Test.YtlioggjncgfioaaM20
import Derived.Test.YtlioggjncgfioaaM21
import Derived.Test.YtlioggjncgfioaaM22
import Derived.Test.YtlioggjncgfioaaM23
import Derived.Test.YtlioggjncgfioaaM25
import Derived.Test.YtlioggjncgfioaaM26
import Derived.Test.YtlioggjncgfioaaM27
import Derived.Test.YtlioggjncgfioaaM28
import Derived.Test.YtlioggjncgfioaaM29
import Derived.Test.YtlioggjncgfioaaM30
import Derived.Test.YtlioggjncgfioaaM31
import Derived.Test.YtlioggjncgfioaaM34
import Derived.Test.YtlioggjncgfioaaM35
import Derived.Test.YtlioggjncgfioaaM36
import Derived.Test.YtlioggjncgfioaaM37
import Derived.Test.YtlioggjncgfioaaM38
import Derived.Test.YtlioggjncgfioaaQFnOddDominating0
namespace Go.Proofs.Ytlioggjncgfioaa.Pure
open Go.RowKit Go.Proofs.Ytlioggjncgfioaa.PFnOddDominating Go.Proofs.YtlioggjncgfioaaW.PrintWords Go.Proofs.YtlioggjncgfioaaW.PrintLast Go.Proofs.YtlioggjncgfioaaW.PrintMore Go.Proofs.YtlioggjncgfioaaM
set_option linter.unusedVariables false
set_option linter.unusedSimpArgs false
/-! impl_Graph_edges -/
theorem impl_Graph_edges.row (l : List Int) (own : Bool) (hG : GoodG l) (i : Nat) (hi : i < l.length) (r : List (List Int)) (n : Int) (d : Nat) :
    ∀ (j : Nat) (o : List (List Int)), l.length - j = d → j ≤ l.length → o.length + d ≤ 1000 → Ev (fun k => impl_Graph_edges.l0 k (o ++ rowEdges l i j d) l n (wrap64 ((i : Int) + 1)) l own) r →
      Ev (fun k => impl_Graph_edges.l1 k o (i : Int) (rd l (i : Int)) (j : Int) l n (i : Int) l own) r := by
  have h16 := pow16 hG.top
  have ht := hG.top
  have hm := hG.sets (rd l (i : Int)) (rd_mem l _ (by omega) (by omega))
  induction d with
  | zero =>
    intro j o hd hj ho h
    rw [show rowEdges l i j 0 = [] from rfl, List.append_nil] at h
    refine Ev.step (f := fun k => impl_Graph_edges.l0 k o l n (wrap64 ((i : Int) + 1)) l own) (fun k => ?_) h
    simp only [impl_Graph_edges.l1]
    rw [if_neg (by omega)]
  | succ d ih =>
    intro j o hd hj ho h
    have hin := impl_has.eq (rd l (i : Int)) (j : Int) hm.1 (by omega) (by omega)
    unfold rowEdges at h
    cases e : bit (rd l (i : Int)) (j : Int)
    · rw [e, if_neg (by decide)] at h
      refine Ev.step (f := fun k => impl_Graph_edges.l1 k o (i : Int) (rd l (i : Int)) ((j + 1 : Nat) : Int) l n (i : Int) l own) (fun k => ?_) (ih (j + 1) o (by omega) (by omega) (by omega) h)
      simp only [impl_Graph_edges.l1]
      rw [if_pos (by omega), hin, Option.bind_some, e, if_neg (by decide), wrap_succ j (by omega)]
    · rw [e, if_pos rfl] at h
      refine Ev.step (f := fun k => impl_Graph_edges.l1 k (o ++ [[(i : Int), (j : Int)]]) (i : Int) (rd l (i : Int)) ((j + 1 : Nat) : Int) l n (i : Int) l own) (fun k => ?_) (ih (j + 1) (o ++ [[(i : Int), (j : Int)]]) (by omega) (by omega) (by simp; omega) (by rw [List.append_assoc]; exact h))
      simp only [impl_Graph_edges.l1]
      rw [if_pos (by omega), hin, Option.bind_some, e, if_pos rfl, if_pos (by omega), wrap_succ j (by omega)]
theorem impl_Graph_edges.loop (l : List Int) (own : Bool) (hG : GoodG l) (d : Nat) :
    ∀ (i : Nat) (o : List (List Int)), l.length - i = d → i ≤ l.length → o.length + d * 20 ≤ 900 → Ev (fun k => impl_Graph_edges.l0 k o l (l.length : Int) (i : Int) l own) (o ++ edgesFrom l i d) := by
  have h16 := hG.top
  induction d with
  | zero =>
    intro i o hd hi ho
    refine now fun k => ?_
    simp only [impl_Graph_edges.l0]
    rw [if_neg (by omega), show edgesFrom l i 0 = [] from rfl, List.append_nil]
  | succ d ih =>
    intro i o hd hi ho
    have hl := rowEdges_length l i d (i + 1)
    have h := ih (i + 1) (o ++ rowEdges l i (i + 1) d) (by omega) (by omega) (by rw [List.length_append]; omega)
    rw [← wrap_succ i (by omega), List.append_assoc] at h
    have h2 := impl_Graph_edges.row l own hG i (by omega) (o ++ (rowEdges l i (i + 1) d ++ edgesFrom l (i + 1) d)) (l.length : Int) d (i + 1) o (by omega) (by omega) (by omega) h
    rw [show edgesFrom l i (d + 1) = rowEdges l i (i + 1) d ++ edgesFrom l (i + 1) d from rfl]
    refine Ev.step (f := fun k => impl_Graph_edges.l1 k o (i : Int) (rd l (i : Int)) ((i + 1 : Nat) : Int) l (l.length : Int) (i : Int) l own) (fun k => ?_) h2
    simp only [impl_Graph_edges.l0]
    rw [if_pos (by omega), if_pos (by omega), if_pos (by omega), wrap_succ i (by omega)]
theorem impl_Graph_edges.ev (l : List Int) (own : Bool) (hG : GoodG l) : Ev (fun k => impl_Graph_edges.f k l own) (edgesOf l) := by
  have h16 := hG.top
  have := impl_Graph_edges.loop l own hG l.length 0 [] (by omega) (by omega) (by simp; omega)
  rw [List.nil_append] at this
  exact this
end Go.Proofs.Ytlioggjncgfioaa.Pure
