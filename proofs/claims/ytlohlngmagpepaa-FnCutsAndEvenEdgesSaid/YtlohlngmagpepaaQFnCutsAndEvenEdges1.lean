/- What the functions of FnCutsAndEvenEdges compute, in plain words. -/
import Derived.Test.YtlohlngmagpepaaPFnCutsAndEvenEdgesx
import Derived.Test.YtlohlngmagpepaaM1
import Derived.Test.YtlohlngmagpepaaM2
import Derived.Test.YtlohlngmagpepaaM3
import Derived.Test.YtlohlngmagpepaaM4
import Derived.Test.YtlohlngmagpepaaM5
import Derived.Test.YtlohlngmagpepaaM6
import Derived.Test.YtlohlngmagpepaaM7
import Derived.Test.YtlohlngmagpepaaM8
import Derived.Test.YtlohlngmagpepaaM9
import Derived.Test.YtlohlngmagpepaaM10
import Derived.Test.YtlohlngmagpepaaM12
import Derived.Test.YtlohlngmagpepaaM15
import Derived.Test.YtlohlngmagpepaaM17
import Derived.Test.YtlohlngmagpepaaM20
import Derived.Test.YtlohlngmagpepaaM21
import Derived.Test.YtlohlngmagpepaaM22
import Derived.Test.YtlohlngmagpepaaM23
import Derived.Test.YtlohlngmagpepaaM25
import Derived.Test.YtlohlngmagpepaaM26
import Derived.Test.YtlohlngmagpepaaM27
import Derived.Test.YtlohlngmagpepaaM28
import Derived.Test.YtlohlngmagpepaaM29
import Derived.Test.YtlohlngmagpepaaM30
import Derived.Test.YtlohlngmagpepaaM31
import Derived.Test.YtlohlngmagpepaaM32
import Derived.Test.YtlohlngmagpepaaM34
import Derived.Test.YtlohlngmagpepaaM35
import Derived.Test.YtlohlngmagpepaaM36
import Derived.Test.YtlohlngmagpepaaM37
import Derived.Test.YtlohlngmagpepaaM38
import Derived.Test.YtlohlngmagpepaaM39
import Derived.Test.YtlohlngmagpepaaM40
import Derived.Test.YtlohlngmagpepaaM41
import Derived.Test.YtlohlngmagpepaaM44
import Derived.Test.YtlohlngmagpepaaQFnCutsAndEvenEdges0
namespace Go.Proofs.Ytlohlngmagpepaa.Pure
open Go.RowKit Go.Proofs.Ytlohlngmagpepaa.PFnCutsAndEvenEdges Go.Proofs.YtlohlngmagpepaaW.PrintWords Go.Proofs.YtlohlngmagpepaaW.PrintLast Go.Proofs.YtlohlngmagpepaaW.PrintMore Go.Proofs.YtlohlngmagpepaaM
set_option linter.unusedVariables false
set_option linter.unusedSimpArgs false
theorem impl_reduced.step_eq (k : Nat) (s b : Nat) (hs : s < 2 ^ 62) (hb : b < 2 ^ 62) (h0 : b ≠ 0) : impl_reduced.step (k + 1) (s : Int) (b : Int) = some (redOne s b : Int) := by
  have h1 := blen_ne h0
  unfold impl_reduced.step redOne
  rw [impl_top.eq k b (by omega), Option.bind_some, impl_has.eq (s : Int) (pdeg b) (by omega) (by omega) (by unfold pdeg; omega), Option.bind_some]
  have e1 : bit (s : Int) (pdeg b) = s.testBit (blen b - 1) := by
    unfold bit pdeg
    rw [show ((blen b : Int) - 1).toNat = blen b - 1 by omega]
    rfl
  rw [e1]
  split
  · rw [xor_nat s b (by omega) (by omega)]
  · rfl
theorem impl_reduced.go_eq (k : Nat) : ∀ (l : List Nat) (s : Nat), s < 2 ^ 62 → (∀ b ∈ l, b < 2 ^ 62 ∧ b ≠ 0) → impl_reduced.go (k + 1) (ints l) (s : Int) = some ((l.foldl redOne s : Nat) : Int)
  | [], s, _, _ => rfl
  | b :: l, s, hs, h => by
    have hb := h b List.mem_cons_self
    show impl_reduced.go (k + 1) ((b : Int) :: ints l) (s : Int) = _
    unfold impl_reduced.go
    rw [impl_reduced.step_eq k s b hs hb.1 hb.2, Option.bind_some, impl_reduced.go_eq k l (redOne s b) (redOne_lt hs hb.1) (fun x hx => h x (List.mem_cons_of_mem _ hx))]
    rfl
theorem impl_reduced.eq (k : Nat) (l : List Nat) (s : Nat) (hs : s < 2 ^ 62) (h : ∀ b ∈ l, b < 2 ^ 62 ∧ b ≠ 0) : impl_reduced.f (k + 1) (ints l) (s : Int) = some (red l s : Int) := by
  unfold impl_reduced.f
  have e1 : (ints l).reverse = ints l.reverse := by unfold ints; rw [List.map_reverse]
  rw [e1, impl_reduced.go_eq k l.reverse s hs (fun b hb => h b (by simpa using hb)), List.foldl_reverse]
  rfl
theorem impl_extended.tp_eq (k b : Nat) (hb : b < 2 ^ 62) : impl_extended.tp (k + 1) (b : Int) = pdeg b ∧ impl_extended.okB (k + 1) (b : Int) = true := by
  have h1 : blen b ≤ 62 := blen_le hb
  unfold impl_extended.tp impl_extended.okB
  rw [impl_top.eq k b (by omega)]
  refine ⟨rfl, ?_⟩
  simp only [Bool.and_eq_true, decide_eq_true_eq]
  unfold pdeg
  omega
theorem impl_extended.go_eq (k : Nat) (t : Nat) (ht : t < 2 ^ 62) (h0 : t ≠ 0) : ∀ l : List Nat, (∀ b ∈ l, b < 2 ^ 62) → impl_extended.go (k + 1) (t : Int) (ints l) = some (ints (l.map (putOne t)))
  | [], _ => rfl
  | b :: l, h => by
    have hb := h b List.mem_cons_self
    have h1 := blen_ne h0
    show impl_extended.go (k + 1) (t : Int) ((b : Int) :: ints l) = _
    unfold impl_extended.go
    rw [impl_top.eq k t (by omega), Option.bind_some, impl_has.eq (b : Int) (pdeg t) (by omega) (by omega) (by unfold pdeg; omega), Option.bind_some, impl_extended.go_eq k t ht h0 l (fun x hx => h x (List.mem_cons_of_mem _ hx)), Option.bind_some]
    have e1 : bit (b : Int) (pdeg t) = b.testBit (blen t - 1) := by
      unfold bit pdeg
      rw [show ((blen t : Int) - 1).toNat = blen t - 1 by omega]
      rfl
    rw [e1, xor_nat b t (by omega) (by omega), List.map_cons]
    unfold putOne
    show some _ = some (_ :: _)
    congr 2
    split <;> rfl
theorem impl_extended.eq (k : Nat) (l : List Nat) (s : Nat) (hs : s < 2 ^ 62) (hl : ∀ b ∈ l, b < 2 ^ 62) (hB : Basis l) (hn : l.length ≤ 1048576) : impl_extended.f (k + 1) (ints l) (s : Int) = some (ints (put l s)) := by
  have hr := red_lt l s hl hs
  have hc := red_clean l s hB
  unfold impl_extended.f put
  rw [impl_reduced.eq k l s hs (fun b hb => ⟨hl b hb, hB.pos b hb⟩), Option.bind_some]
  by_cases hz : red l s = 0
  · rw [if_pos (by omega), if_pos hz]
  · rw [if_neg (by omega), if_neg hz]
    generalize red l s = t at hr hc hz ⊢
    rw [impl_extended.go_eq k t hr hz l hl, Option.bind_some]
    have hp := putTop_perm hB hz hc
    have hT := putTop_basis hB hz hc
    have hlo := putTop_lt hl hr
    have ea : ints (l.map (putOne t)) ++ [(t : Int)] = ints (l.map (putOne t) ++ [t]) := by rw [ints_append]; rfl
    rw [ea]
    have hmem : ∀ x ∈ ints (l.map (putOne t) ++ [t]), ∃ b : Nat, x = (b : Int) ∧ b ∈ putTop l t := fun x hx => by
      unfold ints at hx
      obtain ⟨b, hb, rfl⟩ := List.mem_map.1 hx
      exact ⟨b, rfl, hp.mem_iff.1 hb⟩
    have hfit : impl_extended.fit (k + 1) (ints (l.map (putOne t) ++ [t])) = true := by
      unfold impl_extended.fit
      simp only [Bool.and_eq_true, List.all_eq_true, decide_eq_true_eq]
      refine ⟨⟨fun x hx => ?_, fun x hx y hy => ?_⟩, ?_⟩
      · obtain ⟨b, rfl, hb⟩ := hmem x hx
        exact (impl_extended.tp_eq k b (hlo b hb)).2
      · obtain ⟨b, rfl, hb⟩ := hmem x hx
        obtain ⟨c, rfl, hc2⟩ := hmem y hy
        rw [(impl_extended.tp_eq k b (hlo b hb)).1, (impl_extended.tp_eq k c (hlo c hc2)).1]
        simp only [Bool.or_eq_true, bne_iff_ne, beq_iff_eq]
        by_cases e : b = c
        · exact .inr (by rw [e])
        · refine .inl fun e2 => e ?_
          have e3 : blen b = blen c := by unfold pdeg at e2; omega
          have key : ∀ (r : List Nat), r.Pairwise (fun a b => blen a < blen b) → b ∈ r → c ∈ r → b = c := by
            intro r
            induction r with
            | nil => intro _ hx; simp at hx
            | cons d r ih =>
              intro hpw h1 h2
              obtain ⟨p1, p2⟩ := List.pairwise_cons.1 hpw
              rcases List.mem_cons.1 h1 with e5 | h1
              · rcases List.mem_cons.1 h2 with e6 | h2
                · rw [e5, e6]
                · have := p1 c h2; rw [← e5] at this; omega
              · rcases List.mem_cons.1 h2 with e6 | h2
                · have := p1 b h1; rw [← e6] at this; omega
                · exact ih p2 h1 h2
          exact key _ hT.up hb hc2
      · rw [ints_length, List.length_append, List.length_map, List.length_singleton]
        omega
    rw [if_pos hfit]
    congr 1
    have hs := List.pairwise_mergeSort (le := fun x y : Int => !decide (impl_extended.tp (k + 1) y < impl_extended.tp (k + 1) x)) (fun a b c h1 h2 => by simp at h1 h2 ⊢; omega) (fun a b => by simp; omega) (ints (l.map (putOne t) ++ [t]))
    refine List.Perm.eq_of_pairwise (le := fun x y : Int => impl_extended.tp (k + 1) x ≤ impl_extended.tp (k + 1) y) (fun a b ha hb h1 h2 => ?_) (hs.imp fun h => by simpa using h) ?_ ((List.mergeSort_perm _ _).trans (hp.map _))
    · obtain ⟨x, rfl, hx⟩ := hmem a ((List.mergeSort_perm _ _).mem_iff.1 ha)
      have hfa := impl_extended.fit_apart hfit
      have hb2 : b ∈ ints (l.map (putOne t) ++ [t]) := (hp.map _).mem_iff.2 hb
      exact hfa _ ((List.mergeSort_perm _ _).mem_iff.1 ha) b hb2 (Int.le_antisymm h1 h2)
    · unfold ints
      rw [List.pairwise_map]
      refine hT.up.imp_of_mem (fun {a b} ha hb h => ?_)
      rw [(impl_extended.tp_eq k a (hlo a ha)).1, (impl_extended.tp_eq k b (hlo b hb)).1]
      unfold pdeg
      omega
theorem impl_Graph_parts.inner (l : List Int) (own : Bool) (hG : GoodG l) (o : List Int) (d m n0 i : Nat) (hm : m < 2 ^ l.length) (R : List Int)
    (hR : Ev (fun k => impl_Graph_parts.l1 k o (d : Int) (m : Int) ((orUp (nbs l) m m l.length : Nat) : Int) (n0 : Int) (i : Int) l own) R) :
    ∀ (q j : Nat), l.length - j = q → j ≤ l.length → Ev (fun k => impl_Graph_parts.l2 k o (d : Int) (m : Int) ((orUp (nbs l) m m j : Nat) : Int) (n0 : Int) (i : Int) l (l.length : Int) (j : Int) l own) R
  | 0, j, hq, hj => by
    have ht := hG.top
    have e : j = l.length := by omega
    subst e
    refine Ev.step (f := fun k => impl_Graph_parts.l1 k o (d : Int) (m : Int) ((orUp (nbs l) m m l.length : Nat) : Int) (n0 : Int) (i : Int) l own) (fun k => ?_) hR
    simp only [impl_Graph_parts.l2]
    rw [if_neg (by omega)]
  | q + 1, j, hq, hj => by
    have ht := hG.top
    have h16 : (2 : Nat) ^ l.length ≤ 2 ^ 16 := Nat.pow_le_pow_right (by decide) hG.top
    have hjl : j < l.length := by omega
    have ih := impl_Graph_parts.inner l own hG o d m n0 i hm R hR q (j + 1) (by omega) (by omega)
    have hb := nbs_rd hG hjl
    have hl := orUp_lt (x := m) (nbs_lt hG) hm j hj
    have hin := impl_has.eq (m : Int) (j : Int) (by omega) (by omega) (by omega)
    have hbit : bit (m : Int) (j : Int) = m.testBit j := by unfold bit; simp
    rw [hbit] at hin
    refine Ev.step (f := fun k => impl_Graph_parts.l2 k o (d : Int) (m : Int) ((orUp (nbs l) m m (j + 1) : Nat) : Int) (n0 : Int) (i : Int) l (l.length : Int) ((j + 1 : Nat) : Int) l own) (fun k => ?_) ih
    simp only [impl_Graph_parts.l2]
    rw [if_pos (by omega), if_pos (by omega), if_pos (by omega), hin, Option.bind_some, wrap_succ j (by omega), hb.1]
    rw [show orUp (nbs l) m m (j + 1) = if m.testBit j = true then orUp (nbs l) m m j ||| nbs l j else orUp (nbs l) m m j from rfl]
    split
    · rw [or_nat _ _ (by omega) (by omega)]
    · rfl
theorem impl_Graph_parts.grow (l : List Int) (own : Bool) (hG : GoodG l) (o : List Int) (d i : Nat) (hi : i < l.length) (hd : d < 2 ^ l.length) (ho : o.length ≤ 1000) (n0 : Nat) (R : List Int)
    (hR : Ev (fun k => impl_Graph_parts.l0 k (o ++ [((clo (nbs l) l.length i : Nat) : Int)]) ((d ||| clo (nbs l) l.length i : Nat) : Int) (n0 : Int) ((i + 1 : Nat) : Int) l own) R) :
    ∀ (q p m : Nat), 2 ^ l.length - m ≤ q → m < 2 ^ l.length → p ≠ m → m.testBit i = true → Sub m (clo (nbs l) l.length i) → Ev (fun k => impl_Graph_parts.l1 k o (d : Int) (p : Int) (m : Int) (n0 : Int) (i : Int) l own) R
  | 0, p, m, hq, hm, _, _, _ => by omega
  | q + 1, p, m, hq, hm, hne, hbi, hsub => by
    have ht := hG.top
    have h16 : (2 : Nat) ^ l.length ≤ 2 ^ 16 := Nat.pow_le_pow_right (by decide) hG.top
    have hcl := clo_is (nbs_lt hG) hi
    have hlt := orUp_lt (x := m) (nbs_lt hG) hm l.length (Nat.le_refl _)
    have hgs := orUp_sub (nbs l) m m l.length
    have hin := orUp_in (x := m) hcl.shut hsub hsub l.length (Nat.le_refl _)
    have hcl2 := clo_lt (nbs_lt hG) hi
    have hnext : Ev (fun k => impl_Graph_parts.l1 k o (d : Int) (m : Int) ((orUp (nbs l) m m l.length : Nat) : Int) (n0 : Int) (i : Int) l own) R := by
      by_cases e : orUp (nbs l) m m l.length = m
      · have em : m = clo (nbs l) l.length i := IsCl.eq ⟨hbi, orUp_shut e, fun y hy hc => hsub.trans (hcl.least y hy hc)⟩ hcl
        refine Ev.step (f := fun k => impl_Graph_parts.l0 k (o ++ [((clo (nbs l) l.length i : Nat) : Int)]) ((d ||| clo (nbs l) l.length i : Nat) : Int) (n0 : Int) ((i + 1 : Nat) : Int) l own) (fun k => ?_) hR
        simp only [impl_Graph_parts.l1]
        rw [if_pos (by omega), if_pos (by omega), or_nat _ _ (by omega) (by omega), wrap_succ i (by omega), ← em]
      · have hlt2 : m < orUp (nbs l) m m l.length := by
          have hle : m ≤ orUp (nbs l) m m l.length := Nat.le_of_testBit hgs
          omega
        exact impl_Graph_parts.grow l own hG o d i hi hd ho n0 R hR q m _ (by omega) hlt (fun h => e h.symm) (hgs i hbi) hin
    have h2 := impl_Graph_parts.inner l own hG o d m n0 i hm R hnext l.length 0 (by omega) (by omega)
    refine Ev.step (f := fun k => impl_Graph_parts.l2 k o (d : Int) (m : Int) ((m : Nat) : Int) (n0 : Int) (i : Int) l (l.length : Int) ((0 : Nat) : Int) l own) (fun k => ?_) h2
    simp only [impl_Graph_parts.l1]
    rw [if_neg (by omega)]
    rfl
theorem impl_Graph_parts.outer (l : List Int) (own : Bool) (hG : GoodG l) : ∀ (q t : Nat), l.length - t = q → t ≤ l.length → Ev (fun k => impl_Graph_parts.l0 k (ints (partsUp (nbs l) l.length t).1) (((partsUp (nbs l) l.length t).2 : Nat) : Int) (l.length : Int) (t : Int) l own) (ints (partsUp (nbs l) l.length l.length).1)
  | 0, t, hq, ht => by
    have hlt := hG.top
    have e : t = l.length := by omega
    subst e
    refine now fun k => ?_
    simp only [impl_Graph_parts.l0]
    rw [if_neg (by omega)]
  | q + 1, t, hq, ht => by
    have hlt := hG.top
    have h16 : (2 : Nat) ^ l.length ≤ 2 ^ 16 := Nat.pow_le_pow_right (by decide) hG.top
    have ih := impl_Graph_parts.outer l own hG q (t + 1) (by omega) (by omega)
    have hI := parts_inv (nbs_lt hG) (nbs_sym hG) t ht
    have hil := hI.lt
    have hlen := hI.len
    have hin := impl_has.eq (((partsUp (nbs l) l.length t).2 : Nat) : Int) (t : Int) (by omega) (by omega) (by omega)
    have hbit : bit (((partsUp (nbs l) l.length t).2 : Nat) : Int) (t : Int) = (partsUp (nbs l) l.length t).2.testBit t := by unfold bit; simp
    rw [hbit] at hin
    rw [partsUp] at ih
    cases hb : (partsUp (nbs l) l.length t).2.testBit t
    · rw [hb, if_neg (by decide)] at ih
      rw [hb] at hin
      have hcl := clo_is (nbs_lt hG) (show t < l.length by omega)
      have hp2 : (2 : Nat) ^ t < 2 ^ l.length := Nat.pow_lt_pow_right (by decide) (by omega)
      have h2 := impl_Graph_parts.grow l own hG (ints (partsUp (nbs l) l.length t).1) (partsUp (nbs l) l.length t).2 t (by omega) hil (by rw [ints_length]; omega) l.length _ (by rw [ints_append] at ih; exact ih) (2 ^ l.length) 0 (2 ^ t) (Nat.sub_le _ _) hp2 (fun h => pow_ne t h.symm) (by rw [Nat.testBit_two_pow]; simp) (pow_sub hcl.own)
      refine Ev.step (f := fun k => impl_Graph_parts.l1 k (ints (partsUp (nbs l) l.length t).1) (((partsUp (nbs l) l.length t).2 : Nat) : Int) ((0 : Nat) : Int) ((2 ^ t : Nat) : Int) (l.length : Int) (t : Int) l own) (fun k => ?_) h2
      simp only [impl_Graph_parts.l0]
      rw [if_pos (by omega), hin, Option.bind_some, if_neg (by decide), if_pos (by omega), shl_one (by omega) (by omega), Int.toNat_natCast]
      rfl
    · rw [hb, if_pos rfl] at ih
      rw [hb] at hin
      refine Ev.step (f := fun k => impl_Graph_parts.l0 k (ints (partsUp (nbs l) l.length t).1) (((partsUp (nbs l) l.length t).2 : Nat) : Int) (l.length : Int) ((t + 1 : Nat) : Int) l own) (fun k => ?_) ih
      simp only [impl_Graph_parts.l0]
      rw [if_pos (by omega), hin, Option.bind_some, if_pos rfl, wrap_succ t (by omega)]
theorem impl_Graph_parts.ev (l : List Int) (own : Bool) (hG : GoodG l) : Ev (fun k => impl_Graph_parts.f k l own) (ints (partsUp (nbs l) l.length l.length).1) := impl_Graph_parts.outer l own hG l.length 0 (by omega) (by omega)
theorem spec_paParts.inner (l : List Int) (own : Bool) (hG : GoodG l) (o : List Int) (d m s i : Nat) (hm : m < 2 ^ l.length) (hs : s < l.length) (n0 : Nat) (R : List Int)
    (hR : Ev (fun k => spec_paParts.l1 k o (d : Int) ((inUp (nbs l) m l.length : Nat) : Int) ((s + 1 : Nat) : Int) (n0 : Int) (i : Int) l own) R) :
    ∀ (q j : Nat), l.length - j = q → j ≤ l.length → Ev (fun k => spec_paParts.l2 k o (d : Int) ((inUp (nbs l) m j : Nat) : Int) (s : Int) (n0 : Int) (i : Int) l (l.length : Int) (j : Int) l own) R
  | 0, j, hq, hj => by
    have ht := hG.top
    have e : j = l.length := by omega
    subst e
    refine Ev.step (f := fun k => spec_paParts.l1 k o (d : Int) ((inUp (nbs l) m l.length : Nat) : Int) ((s + 1 : Nat) : Int) (n0 : Int) (i : Int) l own) (fun k => ?_) hR
    simp only [spec_paParts.l2]
    rw [if_neg (by omega), wrap_succ s (by omega)]
  | q + 1, j, hq, hj => by
    have ht := hG.top
    have h16 : (2 : Nat) ^ l.length ≤ 2 ^ 16 := Nat.pow_le_pow_right (by decide) hG.top
    have hjl : j < l.length := by omega
    have ih := spec_paParts.inner l own hG o d m s i hm hs n0 R hR q (j + 1) (by omega) (by omega)
    have hb := nbs_rd hG hjl
    have hl := inUp_lt (nbs_lt hG) hm j hj
    have hin := spec_grIn.eq ((inUp (nbs l) m j : Nat) : Int) (j : Int) (by omega) (by omega) (by omega)
    have hbit : bit ((inUp (nbs l) m j : Nat) : Int) (j : Int) = (inUp (nbs l) m j).testBit j := by unfold bit; simp
    rw [hbit] at hin
    refine Ev.step (f := fun k => spec_paParts.l2 k o (d : Int) ((inUp (nbs l) m (j + 1) : Nat) : Int) (s : Int) (n0 : Int) (i : Int) l (l.length : Int) ((j + 1 : Nat) : Int) l own) (fun k => ?_) ih
    simp only [spec_paParts.l2]
    rw [if_pos (by omega), if_pos (by omega), if_pos (by omega), hin, Option.bind_some, wrap_succ j (by omega), hb.1]
    rw [show inUp (nbs l) m (j + 1) = if (inUp (nbs l) m j).testBit j = true then inUp (nbs l) m j ||| nbs l j else inUp (nbs l) m j from rfl]
    split
    · rw [or_nat _ _ (by omega) (by omega)]
    · rfl
theorem spec_paParts.grow (l : List Int) (own : Bool) (hG : GoodG l) (o : List Int) (d i : Nat) (hi : i < l.length) (hd : d < 2 ^ l.length) (ho : o.length ≤ 1000) (n0 : Nat) (R : List Int)
    (hR : Ev (fun k => spec_paParts.l0 k (o ++ [((clo (nbs l) l.length i : Nat) : Int)]) ((d ||| clo (nbs l) l.length i : Nat) : Int) (n0 : Int) ((i + 1 : Nat) : Int) l own) R) :
    ∀ (q s : Nat), l.length - s = q → s ≤ l.length → Ev (fun k => spec_paParts.l1 k o (d : Int) ((growN (nbs l) l.length (2 ^ i) s : Nat) : Int) (s : Int) (n0 : Int) (i : Int) l own) R
  | 0, s, hq, hs => by
    have ht := hG.top
    have h16 : (2 : Nat) ^ l.length ≤ 2 ^ 16 := Nat.pow_le_pow_right (by decide) hG.top
    have e : s = l.length := by omega
    subst e
    have hcl2 := clo_lt (nbs_lt hG) hi
    have hsz : o.length < 17592186044416 := by omega
    refine Ev.step (f := fun k => spec_paParts.l0 k (o ++ [((clo (nbs l) l.length i : Nat) : Int)]) ((d ||| clo (nbs l) l.length i : Nat) : Int) (n0 : Int) ((i + 1 : Nat) : Int) l own) (fun k => ?_) hR
    simp only [spec_paParts.l1]
    rw [if_neg (by omega), if_pos hsz, show growN (nbs l) l.length (2 ^ i) l.length = clo (nbs l) l.length i from rfl, or_nat _ _ (by omega) (by omega), wrap_succ i (by omega)]
  | q + 1, s, hq, hs => by
    have ht := hG.top
    have h16 : (2 : Nat) ^ l.length ≤ 2 ^ 16 := Nat.pow_le_pow_right (by decide) hG.top
    have hp2 : (2 : Nat) ^ i < 2 ^ l.length := Nat.pow_lt_pow_right (by decide) hi
    have ih := spec_paParts.grow l own hG o d i hi hd ho n0 R hR q (s + 1) (by omega) (by omega)
    have h2 := spec_paParts.inner l own hG o d (growN (nbs l) l.length (2 ^ i) s) s i (grow_lt (nbs_lt hG) hp2 s) (by omega) n0 R ih l.length 0 (by omega) (by omega)
    refine Ev.step (f := fun k => spec_paParts.l2 k o (d : Int) ((growN (nbs l) l.length (2 ^ i) s : Nat) : Int) (s : Int) (n0 : Int) (i : Int) l (l.length : Int) ((0 : Nat) : Int) l own) (fun k => ?_) h2
    simp only [spec_paParts.l1]
    rw [if_pos (by omega)]
    rfl
theorem spec_paParts.outer (l : List Int) (own : Bool) (hG : GoodG l) : ∀ (q t : Nat), l.length - t = q → t ≤ l.length → Ev (fun k => spec_paParts.l0 k (ints (partsUp (nbs l) l.length t).1) (((partsUp (nbs l) l.length t).2 : Nat) : Int) (l.length : Int) (t : Int) l own) (ints (partsUp (nbs l) l.length l.length).1)
  | 0, t, hq, ht => by
    have hlt := hG.top
    have e : t = l.length := by omega
    subst e
    refine now fun k => ?_
    simp only [spec_paParts.l0]
    rw [if_neg (by omega)]
  | q + 1, t, hq, ht => by
    have hlt := hG.top
    have h16 : (2 : Nat) ^ l.length ≤ 2 ^ 16 := Nat.pow_le_pow_right (by decide) hG.top
    have ih := spec_paParts.outer l own hG q (t + 1) (by omega) (by omega)
    have hI := parts_inv (nbs_lt hG) (nbs_sym hG) t ht
    have hil := hI.lt
    have hlen := hI.len
    have hin := spec_grIn.eq (((partsUp (nbs l) l.length t).2 : Nat) : Int) (t : Int) (by omega) (by omega) (by omega)
    have hbit : bit (((partsUp (nbs l) l.length t).2 : Nat) : Int) (t : Int) = (partsUp (nbs l) l.length t).2.testBit t := by unfold bit; simp
    rw [hbit] at hin
    rw [partsUp] at ih
    cases hb : (partsUp (nbs l) l.length t).2.testBit t
    · rw [hb, if_neg (by decide)] at ih
      rw [hb] at hin
      have h2 := spec_paParts.grow l own hG (ints (partsUp (nbs l) l.length t).1) (partsUp (nbs l) l.length t).2 t (by omega) hil (by rw [ints_length]; omega) l.length _ (by rw [ints_append] at ih; exact ih) l.length 0 (by omega) (by omega)
      refine Ev.step (f := fun k => spec_paParts.l1 k (ints (partsUp (nbs l) l.length t).1) (((partsUp (nbs l) l.length t).2 : Nat) : Int) ((2 ^ t : Nat) : Int) ((0 : Nat) : Int) (l.length : Int) (t : Int) l own) (fun k => ?_) h2
      simp only [spec_paParts.l0]
      rw [if_pos (by omega), hin, Option.bind_some, if_neg (by decide), if_pos (by omega), shl_one (by omega) (by omega), Int.toNat_natCast]
      rfl
    · rw [hb, if_pos rfl] at ih
      rw [hb] at hin
      refine Ev.step (f := fun k => spec_paParts.l0 k (ints (partsUp (nbs l) l.length t).1) (((partsUp (nbs l) l.length t).2 : Nat) : Int) (l.length : Int) ((t + 1 : Nat) : Int) l own) (fun k => ?_) ih
      simp only [spec_paParts.l0]
      rw [if_pos (by omega), hin, Option.bind_some, if_pos rfl, wrap_succ t (by omega)]
theorem spec_paParts.ev (l : List Int) (own : Bool) (hG : GoodG l) : Ev (fun k => spec_paParts.f k l own) (ints (partsUp (nbs l) l.length l.length).1) := spec_paParts.outer l own hG l.length 0 (by omega) (by omega)
theorem spec_CountEvenCuts.loop (l : List Int) (own : Bool) (hG : GoodG l) : ∀ (d t : Nat), 2 ^ l.length - t = d → t ≤ 2 ^ l.length → Ev (fun k => spec_CountEvenCuts.l0 k (((List.range t).filter fun x => endsX (cutOf l x) == 0).length : Int) (t : Int) l own) ((((evenCuts l).length >>> (partsUp (nbs l) l.length l.length).1.length : Nat) : Int), true)
  | 0, t, hd, ht => by
    have h16 : (2 : Nat) ^ l.length ≤ 2 ^ 16 := Nat.pow_le_pow_right (by decide) hG.top
    have htop := hG.top
    have e : t = 2 ^ l.length := by omega
    obtain ⟨K, hK⟩ := spec_paParts.ev l own hG
    have hpl := (parts_inv (nbs_lt hG) (nbs_sym hG) l.length (Nat.le_refl _)).len
    have hel := evenCuts_len hG
    have hql := (svP_quiet hG 0).2.1
    have hq16 : (2 : Nat) ^ (svP l 0).quiet.length ≤ 2 ^ 16 := Nat.pow_le_pow_right (by decide) (by omega)
    refine ⟨K + 1, fun k hk => ?_⟩
    obtain ⟨k, rfl⟩ : ∃ k', k = k' + 1 := ⟨k - 1, by omega⟩
    have h1 : spec_paParts.f k l own = _ := hK k (by omega)
    simp only [spec_CountEvenCuts.l0]
    rw [shl_one (by omega) (by omega), Int.toNat_natCast, if_neg (by omega), h1, Option.bind_some, ints_length, e, show ((List.range (2 ^ l.length)).filter fun x => endsX (cutOf l x) == 0) = evenCuts l from rfl, shr_nat _ _ (by omega)]
  | d + 1, t, hd, ht => by
    have h16 : (2 : Nat) ^ l.length ≤ 2 ^ 16 := Nat.pow_le_pow_right (by decide) hG.top
    have htop := hG.top
    have hlt : t < 2 ^ l.length := by omega
    obtain ⟨K3, hK3⟩ := spec_CountEvenCuts.loop l own hG d (t + 1) (by omega) (by omega)
    obtain ⟨K1, hK1⟩ := spec_paCut.ev l own hG t hlt
    have hce : ∀ e ∈ cutOf l t, ∃ x y : Nat, e = [(x : Int), (y : Int)] ∧ x < 16 ∧ y < 16 := fun e he => by
      obtain ⟨x, y, rfl, _, hxy, hy, _⟩ := edgesFrom_pairs l l.length 0 e (List.mem_filter.1 he).1
      exact ⟨x, y, rfl, by omega, by omega⟩
    have hcl : (cutOf l t).length ≤ 1000 := by
      have h1 := edges_len hG
      have h2 := List.length_filter_le (endsP (cutP t)) (edgesOf l)
      unfold cutOf
      omega
    obtain ⟨K2, hK2⟩ := spec_paEven.ev l own (cutOf l t) hce hcl
    have hfl : ((List.range t).filter fun x => endsX (cutOf l x) == 0).length ≤ t := Nat.le_trans (List.length_filter_le _ _) (by rw [List.length_range]; exact Nat.le_refl _)
    refine ⟨K1 + K2 + K3 + 1, fun k hk => ?_⟩
    obtain ⟨k, rfl⟩ : ∃ k', k = k' + 1 := ⟨k - 1, by omega⟩
    have h1 : spec_paCut.f k l own (t : Int) = _ := hK1 k (by omega)
    have h2 : spec_paEven.f k l own (cutOf l t) = _ := hK2 k (by omega)
    have h3 : spec_CountEvenCuts.l0 k (((List.range (t + 1)).filter fun x => endsX (cutOf l x) == 0).length : Int) ((t + 1 : Nat) : Int) l own = _ := hK3 k (by omega)
    rw [List.range_succ, List.filter_append, List.length_append, List.filter_cons, List.filter_nil] at h3
    simp only [spec_CountEvenCuts.l0]
    rw [shl_one (by omega) (by omega), Int.toNat_natCast, if_pos (by omega), h1, Option.bind_some, h2, Option.bind_some, wrap_succ t (by omega)]
    cases hb : (endsX (cutOf l t) == 0)
    · rw [hb, if_neg (by decide), List.length_nil, Nat.add_zero] at h3
      rw [if_neg (by decide)]
      exact h3
    · rw [hb, if_pos rfl, List.length_singleton] at h3
      rw [if_pos rfl, wrap_succ _ (by omega)]
      exact h3
theorem spec_CountEvenCuts.ev (l : List Int) (own : Bool) (h : l.length < 4611686018427387904) : Ev (fun k => spec_CountEvenCuts.f k l own) (evenCutsR l) := by
  obtain ⟨K, hK⟩ := ev_get (spec_grGood.ev l own h)
  unfold evenCutsR
  cases e : good l
  · refine ⟨K + 1, fun k hk => ?_⟩
    have h1 : spec_grGood.f k l own = _ := hK k (by omega)
    show spec_CountEvenCuts.f k l own = _
    obtain ⟨k, rfl⟩ : ∃ k', k = k' + 1 := ⟨k - 1, by omega⟩
    unfold spec_CountEvenCuts.f
    rw [h1, Option.bind_some, e, if_neg (by decide), if_neg (fun h => by cases h.1)]
    simp only [spec_CountEvenCuts.j0]
    rfl
  · by_cases h10 : l.length ≤ 10
    · obtain ⟨K2, hK2⟩ := spec_CountEvenCuts.loop l own ((good_iff l).1 e) (2 ^ l.length) 0 (Nat.sub_zero _) (Nat.zero_le _)
      refine ⟨K + K2 + 1, fun k hk => ?_⟩
      have h1 : spec_grGood.f k l own = _ := hK k (by omega)
      show spec_CountEvenCuts.f k l own = _
      obtain ⟨k, rfl⟩ : ∃ k', k = k' + 1 := ⟨k - 1, by omega⟩
      have h2 : spec_CountEvenCuts.l0 k 0 0 l own = _ := hK2 k (by omega)
      unfold spec_CountEvenCuts.f
      rw [h1, Option.bind_some, e, if_pos rfl, if_pos ⟨rfl, h10⟩, decide_eq_false (by omega)]
      simp only [spec_CountEvenCuts.j0]
      exact h2
    · refine ⟨K + 1, fun k hk => ?_⟩
      have h1 : spec_grGood.f k l own = _ := hK k (by omega)
      show spec_CountEvenCuts.f k l own = _
      obtain ⟨k, rfl⟩ : ∃ k', k = k' + 1 := ⟨k - 1, by omega⟩
      unfold spec_CountEvenCuts.f
      rw [h1, Option.bind_some, e, if_pos rfl, if_neg (fun h => h10 h.2), decide_eq_true (by omega)]
      simp only [spec_CountEvenCuts.j0]
      rfl
theorem impl_CountEvenEdges.ev (l : List Int) (own : Bool) : Ev (fun k => impl_CountEvenEdges.f k l own) (evenEdgesR l) := by
  obtain ⟨K, hK⟩ := ev_get (impl_isGraph.ev l own)
  unfold evenEdgesR
  cases e : good l
  · refine ⟨K, fun k hk => ?_⟩
    have h1 : impl_isGraph.f k l own = _ := hK k hk
    show impl_CountEvenEdges.f k l own = _
    unfold impl_CountEvenEdges.f
    rw [h1, Option.bind_some, e, if_neg (by decide), if_neg (fun h => by cases h.1)]
  · have hG := (good_iff l).1 e
    obtain ⟨K1, hK1⟩ := impl_Graph_edges.ev l own hG
    obtain ⟨K2, hK2⟩ := impl_Graph_parts.ev l own hG
    have hw := evEdges_wrap hG
    refine ⟨K + K1 + K2, fun k hk => ?_⟩
    have h1 : impl_isGraph.f k l own = _ := hK k (by omega)
    have h2 : impl_Graph_edges.f k l own = _ := hK1 k (by omega)
    have h3 : impl_Graph_parts.f k l own = _ := hK2 k (by omega)
    show impl_CountEvenEdges.f k l own = _
    unfold impl_CountEvenEdges.f
    rw [h1, Option.bind_some, e, if_pos rfl, h2, Option.bind_some, h3, Option.bind_some, ints_length, hw]
    by_cases h60 : evEdges l ≤ 60
    · rw [if_neg (by omega), if_pos (by omega), if_pos ⟨rfl, h60⟩, shl_one (by omega) (by omega), Int.toNat_natCast]
    · rw [if_pos (by omega), if_neg (fun h => h60 h.2)]
theorem spec_CountEvenEdges.ev (l : List Int) (own : Bool) (h : l.length < 4611686018427387904) : Ev (fun k => spec_CountEvenEdges.f k l own) (evenEdgesR l) := by
  obtain ⟨K, hK⟩ := ev_get (spec_grGood.ev l own h)
  unfold evenEdgesR
  cases e : good l
  · refine ⟨K, fun k hk => ?_⟩
    have h1 : spec_grGood.f k l own = _ := hK k hk
    show spec_CountEvenEdges.f k l own = _
    unfold spec_CountEvenEdges.f
    rw [h1, Option.bind_some, e, if_neg (by decide), if_neg (fun h => by cases h.1)]
  · have hG := (good_iff l).1 e
    obtain ⟨K1, hK1⟩ := spec_grEdges.ev l own hG
    obtain ⟨K2, hK2⟩ := spec_paParts.ev l own hG
    have hw := evEdges_wrap hG
    refine ⟨K + K1 + K2, fun k hk => ?_⟩
    have h1 : spec_grGood.f k l own = _ := hK k (by omega)
    have h2 : spec_grEdges.f k l own = _ := hK1 k (by omega)
    have h3 : spec_paParts.f k l own = _ := hK2 k (by omega)
    show spec_CountEvenEdges.f k l own = _
    unfold spec_CountEvenEdges.f
    rw [h1, Option.bind_some, e, if_pos rfl, h2, Option.bind_some, h3, Option.bind_some, ints_length, hw]
    by_cases h60 : evEdges l ≤ 60
    · rw [if_neg (by omega), if_pos (by omega), if_pos ⟨rfl, h60⟩, shl_one (by omega) (by omega), Int.toNat_natCast]
    · rw [if_pos (by omega), if_neg (fun h => h60 h.2)]
theorem impl_PartsOf.ev (l : List Int) (own : Bool) : Ev (fun k => impl_PartsOf.f k l own) (partsR l) := by
  obtain ⟨K, hK⟩ := impl_isGraph.ev l own
  unfold partsR
  cases e : good l
  · refine ⟨K, fun k hk => ?_⟩
    have h1 : impl_isGraph.f k l own = _ := hK k hk
    show impl_PartsOf.f k l own = _
    unfold impl_PartsOf.f
    rw [h1, Option.bind_some, e]
    rfl
  · obtain ⟨K2, hK2⟩ := impl_Graph_parts.ev l own ((good_iff l).1 e)
    refine ⟨K + K2, fun k hk => ?_⟩
    have h1 : impl_isGraph.f k l own = _ := hK k (by omega)
    have h2 : impl_Graph_parts.f k l own = _ := hK2 k (by omega)
    show impl_PartsOf.f k l own = _
    unfold impl_PartsOf.f
    rw [h1, Option.bind_some, e, if_pos rfl, h2, Option.bind_some, if_pos rfl]
end Go.Proofs.Ytlohlngmagpepaa.Pure
