/- What the functions of FnExactCircleProduct compute, in plain words. -/
import Derived.Test.YtokgnjbnckmndaaPFnExactCircleProductx10
import Derived.Test.YtokgnjbnckmndaaM1
import Derived.Test.YtokgnjbnckmndaaM2
import Derived.Test.YtokgnjbnckmndaaM4
import Derived.Test.YtokgnjbnckmndaaM5
import Derived.Test.YtokgnjbnckmndaaM6
import Derived.Test.YtokgnjbnckmndaaM8
import Derived.Test.YtokgnjbnckmndaaM10
import Derived.Test.YtokgnjbnckmndaaQFnExactCircleProduct0
namespace Go.Proofs.Ytokgnjbnckmndaa.Pure
open Go.RowKit Go.Proofs.Ytokgnjbnckmndaa.PFnExactCircleProduct Go.Proofs.YtokgnjbnckmndaaW.PrintWords Go.Proofs.YtokgnjbnckmndaaW.PrintLast Go.Proofs.YtokgnjbnckmndaaW.PrintMore Go.Proofs.YtokgnjbnckmndaaM
set_option linter.unusedVariables false
set_option linter.unusedSimpArgs false
/-! bits_Len64 -/
theorem bits_Len64.tab_rows : ∀ i, i < 256 → bt (⟨#[0, 1, 2, 2, 3, 3, 3, 3, 4, 4, 4, 4, 4, 4, 4, 4, 5, 5, 5, 5, 5, 5, 5, 5, 5, 5, 5, 5, 5, 5, 5, 5, 6, 6, 6, 6, 6, 6, 6, 6, 6, 6, 6, 6, 6, 6, 6, 6, 6, 6, 6, 6, 6, 6, 6, 6, 6, 6, 6, 6, 6, 6, 6, 6, 7, 7, 7, 7, 7, 7, 7, 7, 7, 7, 7, 7, 7, 7, 7, 7, 7, 7, 7, 7, 7, 7, 7, 7, 7, 7, 7, 7, 7, 7, 7, 7, 7, 7, 7, 7, 7, 7, 7, 7, 7, 7, 7, 7, 7, 7, 7, 7, 7, 7, 7, 7, 7, 7, 7, 7, 7, 7, 7, 7, 7, 7, 7, 7, 8, 8, 8, 8, 8, 8, 8, 8, 8, 8, 8, 8, 8, 8, 8, 8, 8, 8, 8, 8, 8, 8, 8, 8, 8, 8, 8, 8, 8, 8, 8, 8, 8, 8, 8, 8, 8, 8, 8, 8, 8, 8, 8, 8, 8, 8, 8, 8, 8, 8, 8, 8, 8, 8, 8, 8, 8, 8, 8, 8, 8, 8, 8, 8, 8, 8, 8, 8, 8, 8, 8, 8, 8, 8, 8, 8, 8, 8, 8, 8, 8, 8, 8, 8, 8, 8, 8, 8, 8, 8, 8, 8, 8, 8, 8, 8, 8, 8, 8, 8, 8, 8, 8, 8, 8, 8, 8, 8, 8, 8, 8, 8, 8, 8, 8, 8, 8, 8, 8, 8, 8, 8, 8, 8, 8, 8, 8, 8]⟩ : ByteArray) ((i : Nat) : Int) = ((blk 8 i : Nat) : Int) := by decide +kernel
theorem bits_Len64.tab (i : Nat) (h : i < 256) : bt (⟨#[0, 1, 2, 2, 3, 3, 3, 3, 4, 4, 4, 4, 4, 4, 4, 4, 5, 5, 5, 5, 5, 5, 5, 5, 5, 5, 5, 5, 5, 5, 5, 5, 6, 6, 6, 6, 6, 6, 6, 6, 6, 6, 6, 6, 6, 6, 6, 6, 6, 6, 6, 6, 6, 6, 6, 6, 6, 6, 6, 6, 6, 6, 6, 6, 7, 7, 7, 7, 7, 7, 7, 7, 7, 7, 7, 7, 7, 7, 7, 7, 7, 7, 7, 7, 7, 7, 7, 7, 7, 7, 7, 7, 7, 7, 7, 7, 7, 7, 7, 7, 7, 7, 7, 7, 7, 7, 7, 7, 7, 7, 7, 7, 7, 7, 7, 7, 7, 7, 7, 7, 7, 7, 7, 7, 7, 7, 7, 7, 8, 8, 8, 8, 8, 8, 8, 8, 8, 8, 8, 8, 8, 8, 8, 8, 8, 8, 8, 8, 8, 8, 8, 8, 8, 8, 8, 8, 8, 8, 8, 8, 8, 8, 8, 8, 8, 8, 8, 8, 8, 8, 8, 8, 8, 8, 8, 8, 8, 8, 8, 8, 8, 8, 8, 8, 8, 8, 8, 8, 8, 8, 8, 8, 8, 8, 8, 8, 8, 8, 8, 8, 8, 8, 8, 8, 8, 8, 8, 8, 8, 8, 8, 8, 8, 8, 8, 8, 8, 8, 8, 8, 8, 8, 8, 8, 8, 8, 8, 8, 8, 8, 8, 8, 8, 8, 8, 8, 8, 8, 8, 8, 8, 8, 8, 8, 8, 8, 8, 8, 8, 8, 8, 8, 8, 8, 8, 8]⟩ : ByteArray) (i : Int) = ((blen i : Nat) : Int) := by rw [bits_Len64.tab_rows i h, blen_blk 8 i h]
/-- The steps behind the first test, with a table. -/
def bits_Len64.body (T : ByteArray) (x0 x2 : Int) : Option Int := if x0 ≥ 65536 then (if (x0 / 65536) ≥ 256 then (if 0 ≤ (((x0 / 65536) / 256) % 256) then (if (((x0 / 65536) / 256) % 256) < 256 then (some (wrap64 ((wrap64 ((wrap64 (x2 + 16)) + 8)) + (wrap64 (bt T (((x0 / 65536) / 256) % 256)))))) else (none)) else (none)) else (if 0 ≤ ((x0 / 65536) % 256) then (if ((x0 / 65536) % 256) < 256 then (some (wrap64 ((wrap64 (x2 + 16)) + (wrap64 (bt T ((x0 / 65536) % 256)))))) else (none)) else (none))) else (if x0 ≥ 256 then (if 0 ≤ ((x0 / 256) % 256) then (if ((x0 / 256) % 256) < 256 then (some (wrap64 ((wrap64 (x2 + 8)) + (wrap64 (bt T ((x0 / 256) % 256)))))) else (none)) else (none)) else (if 0 ≤ ((x0) % 256) then (if ((x0) % 256) < 256 then (some (wrap64 (x2 + (wrap64 (bt T ((x0) % 256)))))) else (none)) else (none)))
theorem bits_Len64.steps (T : ByteArray) (tab : ∀ i : Nat, i < 256 → bt T (i : Int) = ((blen i : Nat) : Int)) (n : Nat) (x : Nat) (hn : n ≤ 32) (hx : x < 4294967296) : bits_Len64.body T (x : Int) (n : Int) = some (((n + blen x : Nat) : Int)) := by
  have tb : ∀ (y : Nat), y < 256 → ((y : Int) % 256) = ((y : Nat) : Int) := fun y h => by omega
  have bl : ∀ (y : Nat), y < 256 → blen y ≤ 8 := fun y h => blen_le h
  unfold bits_Len64.body
  by_cases e1 : x ≥ 65536
  · rw [if_pos (by omega)]
    by_cases e2 : x / 65536 ≥ 256
    · have hb := blen_shift 24 x (by rw [show (2 : Nat) ^ 24 = 16777216 from rfl]; omega)
      rw [show (2 : Nat) ^ 24 = 16777216 from rfl] at hb
      have hl := bl (x / 16777216) (by omega)
      have he : ((x : Int) / 65536) / 256 % 256 = ((x / 16777216 : Nat) : Int) := by omega
      rw [if_pos (by omega), if_pos (by omega), if_pos (by omega), he, tab _ (by omega), wrap_id (x := (n : Int) + 16) (by omega) (by omega), wrap_id (x := (n : Int) + 16 + 8) (by omega) (by omega), wrap_id (x := ((blen (x / 16777216) : Nat) : Int)) (by omega) (by omega), wrap_id (by omega) (by omega), hb]
      congr 1
      omega
    · have hb := blen_shift 16 x (by rw [show (2 : Nat) ^ 16 = 65536 from rfl]; omega)
      rw [show (2 : Nat) ^ 16 = 65536 from rfl] at hb
      have hl := bl (x / 65536) (by omega)
      have he : ((x : Int) / 65536) % 256 = ((x / 65536 : Nat) : Int) := by omega
      rw [if_neg (by omega), if_pos (by omega), if_pos (by omega), he, tab _ (by omega), wrap_id (x := (n : Int) + 16) (by omega) (by omega), wrap_id (x := ((blen (x / 65536) : Nat) : Int)) (by omega) (by omega), wrap_id (by omega) (by omega), hb]
      congr 1
      omega
  · rw [if_neg (by omega)]
    by_cases e2 : x ≥ 256
    · have hb := blen_shift 8 x (by rw [show (2 : Nat) ^ 8 = 256 from rfl]; omega)
      rw [show (2 : Nat) ^ 8 = 256 from rfl] at hb
      have hl := bl (x / 256) (by omega)
      have he : ((x : Int) / 256) % 256 = ((x / 256 : Nat) : Int) := by omega
      rw [if_pos (by omega), if_pos (by omega), if_pos (by omega), he, tab _ (by omega), wrap_id (x := (n : Int) + 8) (by omega) (by omega), wrap_id (x := ((blen (x / 256) : Nat) : Int)) (by omega) (by omega), wrap_id (by omega) (by omega), hb]
      congr 1
      omega
    · have hl := bl x (by omega)
      have he : (x : Int) % 256 = (x : Int) := by omega
      rw [if_neg (by omega), if_pos (by omega), if_pos (by omega), he, tab _ (by omega), wrap_id (x := ((blen x : Nat) : Int)) (by omega) (by omega), wrap_id (by omega) (by omega)]
      congr 1
theorem bits_Len64.tail (k n : Nat) (x : Nat) (hn : n ≤ 32) (hx : x < 4294967296) : bits_Len64.j0 (k + 1) (x : Int) (n : Int) = some (((n + blen x : Nat) : Int)) :=
  bits_Len64.steps (⟨#[0, 1, 2, 2, 3, 3, 3, 3, 4, 4, 4, 4, 4, 4, 4, 4, 5, 5, 5, 5, 5, 5, 5, 5, 5, 5, 5, 5, 5, 5, 5, 5, 6, 6, 6, 6, 6, 6, 6, 6, 6, 6, 6, 6, 6, 6, 6, 6, 6, 6, 6, 6, 6, 6, 6, 6, 6, 6, 6, 6, 6, 6, 6, 6, 7, 7, 7, 7, 7, 7, 7, 7, 7, 7, 7, 7, 7, 7, 7, 7, 7, 7, 7, 7, 7, 7, 7, 7, 7, 7, 7, 7, 7, 7, 7, 7, 7, 7, 7, 7, 7, 7, 7, 7, 7, 7, 7, 7, 7, 7, 7, 7, 7, 7, 7, 7, 7, 7, 7, 7, 7, 7, 7, 7, 7, 7, 7, 7, 8, 8, 8, 8, 8, 8, 8, 8, 8, 8, 8, 8, 8, 8, 8, 8, 8, 8, 8, 8, 8, 8, 8, 8, 8, 8, 8, 8, 8, 8, 8, 8, 8, 8, 8, 8, 8, 8, 8, 8, 8, 8, 8, 8, 8, 8, 8, 8, 8, 8, 8, 8, 8, 8, 8, 8, 8, 8, 8, 8, 8, 8, 8, 8, 8, 8, 8, 8, 8, 8, 8, 8, 8, 8, 8, 8, 8, 8, 8, 8, 8, 8, 8, 8, 8, 8, 8, 8, 8, 8, 8, 8, 8, 8, 8, 8, 8, 8, 8, 8, 8, 8, 8, 8, 8, 8, 8, 8, 8, 8, 8, 8, 8, 8, 8, 8, 8, 8, 8, 8, 8, 8, 8, 8, 8, 8, 8, 8]⟩ : ByteArray) bits_Len64.tab n x hn hx
theorem bits_Len64.eq (k : Nat) (x : Nat) (hx : x < 2 ^ 64) : bits_Len64.f (k + 1) (x : Int) = some ((blen x : Nat) : Int) := by
  unfold bits_Len64.f
  by_cases e : x ≥ 4294967296
  · have hb := blen_shift 32 x (by rw [show (2 : Nat) ^ 32 = 4294967296 from rfl]; omega)
    rw [show (2 : Nat) ^ 32 = 4294967296 from rfl] at hb
    have := bits_Len64.tail k 32 (x / 4294967296) (by omega) (by omega)
    rw [if_pos (by omega), show (x : Int) / 4294967296 = ((x / 4294967296 : Nat) : Int) by omega]
    refine this.trans ?_
    rw [hb, Nat.add_comm]
  · have := bits_Len64.tail k 0 x (by omega) (by omega)
    rw [if_neg (by omega)]
    refine this.trans ?_
    rw [Nat.zero_add]

/-! bits_Len -/
theorem bits_Len.eq (k : Nat) (x : Nat) (hx : x < 2 ^ 64) : bits_Len.f (k + 1) (x : Int) = some ((blen x : Nat) : Int) := by
  unfold bits_Len.f
  rw [bits_Len64.eq k x hx]
  rfl

/-! impl_top -/
theorem impl_top.eq (k : Nat) (x : Nat) (hx : x < 2 ^ 63) : impl_top.f (k + 1) (x : Int) = some (pdeg x) := by
  have e : IntKind.u64.wrap (x : Int) = (x : Int) := by
    show (x : Int) % _ = _
    exact Int.emod_eq_of_lt (by omega) (by show (x : Int) < 18446744073709551616; omega)
  have hb : blen x ≤ 63 := blen_le hx
  unfold impl_top.f
  rw [e, bits_Len.eq k x (by omega), Option.bind_some, wrap_id (by omega) (by omega)]
  rfl

/-! impl_reduced -/
theorem impl_reduced.step_eq (k : Nat) (s b : Nat) (hs : s < 2 ^ 62) (hb : b < 2 ^ 62) (h0 : b ≠ 0) : impl_reduced.step (k + 1) (s : Int) (b : Int) = some (redOne s b : Int) := by
  have h1 := blen_ne h0
  unfold impl_reduced.step redOne
  rw [impl_top.eq k b (by omega), Option.bind_some, impl_has.eq (s : Int) (pdeg b) (by omega) (by omega) (by unfold pdeg; omega), Option.bind_some]
  have e1 : bit (s : Int) (pdeg b) = s.testBit (blen b - 1) := by
    unfold bit pdeg
    rw [show ((blen b : Int) - 1).toNat = blen b - 1 by omega]
    rfl
  rw [e1]
  split
  · rw [xor_nat s b (by omega) (by omega)]
  · rfl
theorem impl_reduced.go_eq (k : Nat) : ∀ (l : List Nat) (s : Nat), s < 2 ^ 62 → (∀ b ∈ l, b < 2 ^ 62 ∧ b ≠ 0) → impl_reduced.go (k + 1) (ints l) (s : Int) = some ((l.foldl redOne s : Nat) : Int)
  | [], s, _, _ => rfl
  | b :: l, s, hs, h => by
    have hb := h b List.mem_cons_self
    show impl_reduced.go (k + 1) ((b : Int) :: ints l) (s : Int) = _
    unfold impl_reduced.go
    rw [impl_reduced.step_eq k s b hs hb.1 hb.2, Option.bind_some, impl_reduced.go_eq k l (redOne s b) (redOne_lt hs hb.1) (fun x hx => h x (List.mem_cons_of_mem _ hx))]
    rfl
theorem impl_reduced.eq (k : Nat) (l : List Nat) (s : Nat) (hs : s < 2 ^ 62) (h : ∀ b ∈ l, b < 2 ^ 62 ∧ b ≠ 0) : impl_reduced.f (k + 1) (ints l) (s : Int) = some (red l s : Int) := by
  unfold impl_reduced.f
  have e1 : (ints l).reverse = ints l.reverse := by unfold ints; rw [List.map_reverse]
  rw [e1, impl_reduced.go_eq k l.reverse s hs (fun b hb => h b (by simpa using hb)), List.foldl_reverse]
  rfl

/-! impl_extended -/
theorem impl_extended.tp_eq (k b : Nat) (hb : b < 2 ^ 62) : impl_extended.tp (k + 1) (b : Int) = pdeg b ∧ impl_extended.okB (k + 1) (b : Int) = true := by
  have h1 : blen b ≤ 62 := blen_le hb
  unfold impl_extended.tp impl_extended.okB
  rw [impl_top.eq k b (by omega)]
  refine ⟨rfl, ?_⟩
  simp only [Bool.and_eq_true, decide_eq_true_eq]
  unfold pdeg
  omega
theorem impl_extended.go_eq (k : Nat) (t : Nat) (ht : t < 2 ^ 62) (h0 : t ≠ 0) : ∀ l : List Nat, (∀ b ∈ l, b < 2 ^ 62) → impl_extended.go (k + 1) (t : Int) (ints l) = some (ints (l.map (putOne t)))
  | [], _ => rfl
  | b :: l, h => by
    have hb := h b List.mem_cons_self
    have h1 := blen_ne h0
    show impl_extended.go (k + 1) (t : Int) ((b : Int) :: ints l) = _
    unfold impl_extended.go
    rw [impl_top.eq k t (by omega), Option.bind_some, impl_has.eq (b : Int) (pdeg t) (by omega) (by omega) (by unfold pdeg; omega), Option.bind_some, impl_extended.go_eq k t ht h0 l (fun x hx => h x (List.mem_cons_of_mem _ hx)), Option.bind_some]
    have e1 : bit (b : Int) (pdeg t) = b.testBit (blen t - 1) := by
      unfold bit pdeg
      rw [show ((blen t : Int) - 1).toNat = blen t - 1 by omega]
      rfl
    rw [e1, xor_nat b t (by omega) (by omega), List.map_cons]
    unfold putOne
    show some _ = some (_ :: _)
    congr 2
    split <;> rfl
theorem impl_extended.eq (k : Nat) (l : List Nat) (s : Nat) (hs : s < 2 ^ 62) (hl : ∀ b ∈ l, b < 2 ^ 62) (hB : Basis l) (hn : l.length ≤ 1048576) : impl_extended.f (k + 1) (ints l) (s : Int) = some (ints (put l s)) := by
  have hr := red_lt l s hl hs
  have hc := red_clean l s hB
  unfold impl_extended.f put
  rw [impl_reduced.eq k l s hs (fun b hb => ⟨hl b hb, hB.pos b hb⟩), Option.bind_some]
  by_cases hz : red l s = 0
  · rw [if_pos (by omega), if_pos hz]
  · rw [if_neg (by omega), if_neg hz]
    generalize red l s = t at hr hc hz ⊢
    rw [impl_extended.go_eq k t hr hz l hl, Option.bind_some]
    have hp := putTop_perm hB hz hc
    have hT := putTop_basis hB hz hc
    have hlo := putTop_lt hl hr
    have ea : ints (l.map (putOne t)) ++ [(t : Int)] = ints (l.map (putOne t) ++ [t]) := by rw [ints_append]; rfl
    rw [ea]
    have hmem : ∀ x ∈ ints (l.map (putOne t) ++ [t]), ∃ b : Nat, x = (b : Int) ∧ b ∈ putTop l t := fun x hx => by
      unfold ints at hx
      obtain ⟨b, hb, rfl⟩ := List.mem_map.1 hx
      exact ⟨b, rfl, hp.mem_iff.1 hb⟩
    have hfit : impl_extended.fit (k + 1) (ints (l.map (putOne t) ++ [t])) = true := by
      unfold impl_extended.fit
      simp only [Bool.and_eq_true, List.all_eq_true, decide_eq_true_eq]
      refine ⟨⟨fun x hx => ?_, fun x hx y hy => ?_⟩, ?_⟩
      · obtain ⟨b, rfl, hb⟩ := hmem x hx
        exact (impl_extended.tp_eq k b (hlo b hb)).2
      · obtain ⟨b, rfl, hb⟩ := hmem x hx
        obtain ⟨c, rfl, hc2⟩ := hmem y hy
        rw [(impl_extended.tp_eq k b (hlo b hb)).1, (impl_extended.tp_eq k c (hlo c hc2)).1]
        simp only [Bool.or_eq_true, bne_iff_ne, beq_iff_eq]
        by_cases e : b = c
        · exact .inr (by rw [e])
        · refine .inl fun e2 => e ?_
          have e3 : blen b = blen c := by unfold pdeg at e2; omega
          have key : ∀ (r : List Nat), r.Pairwise (fun a b => blen a < blen b) → b ∈ r → c ∈ r → b = c := by
            intro r
            induction r with
            | nil => intro _ hx; simp at hx
            | cons d r ih =>
              intro hpw h1 h2
              obtain ⟨p1, p2⟩ := List.pairwise_cons.1 hpw
              rcases List.mem_cons.1 h1 with e5 | h1
              · rcases List.mem_cons.1 h2 with e6 | h2
                · rw [e5, e6]
                · have := p1 c h2; rw [← e5] at this; omega
              · rcases List.mem_cons.1 h2 with e6 | h2
                · have := p1 b h1; rw [← e6] at this; omega
                · exact ih p2 h1 h2
          exact key _ hT.up hb hc2
      · rw [ints_length, List.length_append, List.length_map, List.length_singleton]
        omega
    rw [if_pos hfit]
    congr 1
    have hs := List.pairwise_mergeSort (le := fun x y : Int => !decide (impl_extended.tp (k + 1) y < impl_extended.tp (k + 1) x)) (fun a b c h1 h2 => by simp at h1 h2 ⊢; omega) (fun a b => by simp; omega) (ints (l.map (putOne t) ++ [t]))
    refine List.Perm.eq_of_pairwise (le := fun x y : Int => impl_extended.tp (k + 1) x ≤ impl_extended.tp (k + 1) y) (fun a b ha hb h1 h2 => ?_) (hs.imp fun h => by simpa using h) ?_ ((List.mergeSort_perm _ _).trans (hp.map _))
    · obtain ⟨x, rfl, hx⟩ := hmem a ((List.mergeSort_perm _ _).mem_iff.1 ha)
      have hfa := impl_extended.fit_apart hfit
      have hb2 : b ∈ ints (l.map (putOne t) ++ [t]) := (hp.map _).mem_iff.2 hb
      exact hfa _ ((List.mergeSort_perm _ _).mem_iff.1 ha) b hb2 (Int.le_antisymm h1 h2)
    · unfold ints
      rw [List.pairwise_map]
      refine hT.up.imp_of_mem (fun {a b} ha hb h => ?_)
      rw [(impl_extended.tp_eq k a (hlo a ha)).1, (impl_extended.tp_eq k b (hlo b hb)).1]
      unfold pdeg
      omega

/-! impl_circleProduct -/
theorem impl_circleProduct.inner (m n : Nat) (hn : n ≤ 16) (T : List Nat) (hTn : T.length = n) (hT : ∀ x ∈ T, x < 2 ^ n) (b : List Nat) (hB : Basis b) (hb : ∀ x ∈ b, x < 2 ^ 62) (hbl : b.length ≤ 1000) (i : Nat) (hi : i < 2 * n) (R : Int) (hm : m < 1000000) :
    ∀ (d j : Nat) (p : Nat × Nat), j + d = m → p.1 < 2 ^ n → p.2 < 2 ^ n → Ev (fun k => impl_circleProduct.l0 k (m : Int) (n : Int) (ints T) (ints (put b (pack n (cit T d p) ^^^ 2 ^ i))) (2 * n : Int) ((i + 1 : Nat) : Int)) R →
      Ev (fun k => impl_circleProduct.l1 k (m : Int) (n : Int) (ints T) (ints b) (i : Int) (p.1 : Int) (p.2 : Int) (2 * n : Int) (i : Int) (m : Int) (j : Int)) R
  | 0, j, p, hd, h1, h2, hR => by
    have hp : (2 : Nat) ^ n ≤ 2 ^ 16 := Nat.pow_le_pow_right (by decide) hn
    have hi2 : (2 : Nat) ^ i < 2 ^ 32 := Nat.pow_lt_pow_right (by decide) (by omega)
    have hpk := pack_lt h1 h2
    have hpk2 : (2 : Nat) ^ (2 * n) ≤ 2 ^ 32 := Nat.pow_le_pow_right (by decide) (by omega)
    have hmul : p.2 * 2 ^ n < 2 ^ 32 := by
      have : p.2 * 2 ^ n < 2 ^ n * 2 ^ n := Nat.mul_lt_mul_of_pos_right h2 (Nat.two_pow_pos n)
      rw [← Nat.pow_add, show n + n = 2 * n by omega] at this
      omega
    have e1 : p.1 ||| p.2 * 2 ^ n = pack n p := by unfold pack; rw [← Nat.shiftLeft_eq]; exact or_shift h1
    have hx : pack n p ^^^ 2 ^ i < 2 ^ 32 := Nat.xor_lt_two_pow (by omega) hi2
    obtain ⟨K, hK⟩ := hR
    refine ⟨K + 2, fun k hk => ?_⟩
    obtain ⟨q, rfl⟩ : ∃ q, k = q + 2 := ⟨k - 2, by omega⟩
    show impl_circleProduct.l1 (q + 1 + 1) (m : Int) (n : Int) (ints T) (ints b) (i : Int) (p.1 : Int) (p.2 : Int) (2 * n : Int) (i : Int) (m : Int) (j : Int) = _
    simp only [impl_circleProduct.l1]
    rw [if_neg (by omega), if_pos (by omega), if_pos (by omega), shl_eq (by omega) (by omega) (by omega) (by rw [Int.toNat_natCast, Int.toNat_natCast]; omega), Int.toNat_natCast, Int.toNat_natCast, or_nat _ _ (by omega) (by omega), shl_one (by omega) (by omega), Int.toNat_natCast, e1, xor_nat _ _ (by omega) (by omega), impl_extended.eq q b _ (by omega) hb hB (by omega), Option.bind_some, wrap_succ i (by omega)]
    exact hK (q + 1) (by omega)
  | d + 1, j, p, hd, h1, h2, hR => by
    have hp : (2 : Nat) ^ n ≤ 2 ^ 16 := Nat.pow_le_pow_right (by decide) hn
    have hc := cst_lt hT h1 h2
    have ih := impl_circleProduct.inner m n hn T hTn hT b hB hb hbl i hi R hm d (j + 1) (cst T p) (by omega) hc.1 hc.2 hR
    have hbI : ∀ x ∈ ints T, 0 ≤ x ∧ x < 2 ^ n := fun x hx => by
      unfold ints at hx
      obtain ⟨y, hy, rfl⟩ := List.mem_map.1 hx
      have := hT y hy
      have hc : ((2 ^ n : Nat) : Int) = (2 : Int) ^ n := by simp
      omega
    have ha := ap_lt T 0 0 hT (Nat.two_pow_pos n) (s := p.1)
    obtain ⟨K, hK⟩ := ev_and (impl_apply.ev (ints T) (p.1 : Int) n (by omega) hbI (by omega) (by omega) (by rw [ints_length]; omega)) ih
    refine ⟨K + 1, fun k hk => ?_⟩
    obtain ⟨q, rfl⟩ : ∃ q, k = q + 1 := ⟨k - 1, by omega⟩
    obtain ⟨c1, c2⟩ := hK q (by omega)
    show impl_circleProduct.l1 (q + 1) (m : Int) (n : Int) (ints T) (ints b) (i : Int) (p.1 : Int) (p.2 : Int) (2 * n : Int) (i : Int) (m : Int) (j : Int) = _
    simp only [impl_circleProduct.l1]
    rw [if_pos (by omega), c1, Option.bind_some, applyMap_ints, xor_nat _ _ (by omega) (by omega), wrap_succ j (by omega)]
    exact c2
theorem impl_circleProduct.loop (m n : Nat) (hn : n ≤ 16) (T : List Nat) (hTn : T.length = n) (hT : ∀ x ∈ T, x < 2 ^ n) (hm : m < 1000000) (d : Nat) :
    ∀ (i : Nat) (b : List Nat), i + d = 2 * n → b = puts [] ((List.range' 0 i).map (cvec n T m)) → Ev (fun k => impl_circleProduct.l0 k (m : Int) (n : Int) (ints T) (ints b) (2 * n : Int) (i : Int)) (circ n T m) := by
  have hp62 : (2 : Nat) ^ (2 * n) ≤ 2 ^ 32 := Nat.pow_le_pow_right (by decide) (by omega)
  induction d with
  | zero =>
    intro i b hd hb
    obtain rfl : i = 2 * n := by omega
    have hbl := puts_length_le ((List.range' 0 (2 * n)).map (cvec n T m)) []
    rw [← hb] at hbl
    simp only [List.length_nil, List.length_map, List.length_range'] at hbl
    refine now fun k => ?_
    simp only [impl_circleProduct.l0]
    rw [if_neg (by omega), ints_length, wrap_id (x := 2 * (n : Int)) (by omega) (by omega), wrap_id (by omega) (by omega)]
    unfold circ nulMap
    rw [← hb, List.length_map, List.length_range']
    congr 1
  | succ d ih =>
    intro i b hd hb
    have hi : i < 2 * n := by omega
    have hcv : ∀ x ∈ (List.range' 0 i).map (cvec n T m), x < 2 ^ (2 * n) := fun x hx => by
      obtain ⟨y, hy, rfl⟩ := List.mem_map.1 hx
      exact cvec_lt hT m (by have := List.mem_range'_1.1 hy; omega)
    have hB : Basis b := by rw [hb]; exact puts_basis _ basis_nil
    have hlo : ∀ x ∈ b, x < 2 ^ (2 * n) := by rw [hb]; exact puts_lt _ (fun x hx => by simp at hx) hcv
    have hbl : b.length ≤ 1000 := by
      have := puts_length_le ((List.range' 0 i).map (cvec n T m)) []
      rw [← hb] at this
      simp only [List.length_nil, List.length_map, List.length_range'] at this
      omega
    have hf := cfst_lt hi
    have ih' := ih (i + 1) (put b (pack n (cit T m (cfst n i)) ^^^ 2 ^ i)) (by omega) (by
      rw [List.range'_1_concat, List.map_append, hb]
      unfold puts
      rw [List.foldl_append]
      simp only [Nat.zero_add, List.map_cons, List.map_nil, List.foldl_cons, List.foldl_nil]
      rfl)
    have hin := impl_circleProduct.inner m n hn T hTn hT b hB (fun x hx => by have := hlo x hx; omega) hbl i hi _ hm m 0 (cfst n i) (by omega) hf.1 hf.2 ih'
    obtain ⟨K, hK⟩ := hin
    refine ⟨K + 2, fun k hk => ?_⟩
    obtain ⟨q, rfl⟩ : ∃ q, k = q + 2 := ⟨k - 2, by omega⟩
    have c1 := hK q (by omega)
    show impl_circleProduct.l0 (q + 1 + 1) (m : Int) (n : Int) (ints T) (ints b) (2 * n : Int) (i : Int) = _
    simp only [impl_circleProduct.l0]
    rw [if_pos (by omega)]
    by_cases e : i < n
    · have ef : cfst n i = (2 ^ i, 0) := if_pos e
      rw [ef] at c1
      rw [if_pos (by omega), if_pos (by omega), shl_one (by omega) (by omega), Int.toNat_natCast]
      simp only [impl_circleProduct.j1]
      exact c1
    · have ef : cfst n i = (0, 2 ^ (i - n)) := if_neg e
      rw [ef] at c1
      rw [if_neg (by omega), wrap_id (by omega) (by omega), if_pos (by omega), show (i : Int) - (n : Int) = ((i - n : Nat) : Int) by omega, shl_one (by omega) (by omega), Int.toNat_natCast]
      simp only [impl_circleProduct.j1]
      exact c1
theorem impl_circleProduct.ev (l : List Int) (own : Bool) (hG : GoodG l) (m : Nat) (hm : m < 1000000) : Ev (fun k => impl_circleProduct.f k l own (m : Int)) (circ l.length (togs l own) m) := by
  have ht := togs_ints l own hG
  have h16 := hG.top
  obtain ⟨K, hK⟩ := ev_and (impl_Graph_toggleMap.ev l own hG) (impl_circleProduct.loop m l.length h16 (togs l own) ht.2.1 ht.2.2 hm (2 * l.length) 0 [] (by omega) rfl)
  refine ⟨K, fun k hk => ?_⟩
  obtain ⟨c1, c2⟩ := hK k hk
  show impl_circleProduct.f k l own (m : Int) = _
  unfold impl_circleProduct.f
  rw [c1, Option.bind_some, ht.1, wrap_id (by omega) (by omega)]
  exact c2

/-! impl_CircleProduct -/
theorem impl_side3 (a : Int) : impl_isSide.f a 3 = some (decide (3 ≤ a) && decide (a ≤ 40)) := by
  unfold impl_isSide.f
  rw [impl_in.eq]
  rfl
theorem impl_CircleProduct.ev (l : List Int) (own : Bool) (a : Int) : Ev (fun k => impl_CircleProduct.f k l own a) (circleProd l own a) := by
  obtain ⟨K1, hK1⟩ := impl_isGraph.ev l own
  unfold circleProd
  cases e1 : good l
  · rw [Bool.false_and, if_neg (by decide)]
    refine ⟨K1, fun k hk => ?_⟩
    have c1 : impl_isGraph.f k l own = _ := hK1 k hk
    show impl_CircleProduct.f k l own a = _
    unfold impl_CircleProduct.f
    rw [c1, Option.bind_some, e1, if_neg (by decide)]
  · rw [Bool.true_and]
    cases e2 : (decide (3 ≤ a) && decide (a ≤ 40))
    · rw [if_neg (by decide)]
      refine ⟨K1, fun k hk => ?_⟩
      have c1 : impl_isGraph.f k l own = _ := hK1 k hk
      show impl_CircleProduct.f k l own a = _
      unfold impl_CircleProduct.f
      rw [c1, Option.bind_some, e1, if_pos rfl, impl_side3, e2, Option.bind_some, if_neg (by decide)]
    · rw [if_pos rfl]
      have h2 : 3 ≤ a ∧ a ≤ 40 := by simpa using e2
      obtain ⟨m, rfl⟩ := Int.eq_ofNat_of_zero_le (show 0 ≤ a by omega)
      obtain ⟨K2, hK2⟩ := impl_circleProduct.ev l own ((good_iff l).1 e1) m (by omega)
      refine ⟨K1 + K2, fun k hk => ?_⟩
      have c1 : impl_isGraph.f k l own = _ := hK1 k (by omega)
      have c2 : impl_circleProduct.f k l own (m : Int) = _ := hK2 k (by omega)
      show impl_CircleProduct.f k l own (m : Int) = _
      unfold impl_CircleProduct.f
      rw [c1, Option.bind_some, e1, if_pos rfl, impl_side3, e2, Option.bind_some, if_pos rfl, c2, Option.bind_some]
      rfl
end Go.Proofs.Ytokgnjbnckmndaa.Pure
