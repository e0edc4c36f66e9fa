/- Plain laws on all sums of a basis: in order, each once. No program in sight. -/
import Derived.Test.YtlohlngmagpepaaM28
namespace Go.Proofs.YtlohlngmagpepaaM
open Go.RowKit Go.Proofs.YtlohlngmagpepaaW.PrintWords Go.Proofs.YtlohlngmagpepaaW.PrintLast Go.Proofs.YtlohlngmagpepaaW.PrintMore
set_option linter.unusedVariables false
set_option linter.unusedSimpArgs false
def sumsGo (o : List Nat) : List Nat → List Nat
  | [] => o
  | b :: r => sumsGo (o ++ o.map fun x => x ^^^ b) r
def sums (q : List Nat) : List Nat := sumsGo [0] q
theorem lt_of_bits : ∀ (t x y : Nat), x.testBit t = false → y.testBit t = true → (∀ j, t < j → x.testBit j = y.testBit j) → x < y
  | 0, x, y, hx, hy, h => by
    have e : x / 2 = y / 2 := Nat.eq_of_testBit_eq fun i => by
      rw [← Nat.testBit_succ, ← Nat.testBit_succ]
      exact h (i + 1) (by omega)
    rw [Nat.testBit_zero] at hx hy
    simp only [decide_eq_true_eq, decide_eq_false_iff_not] at hx hy
    omega
  | t + 1, x, y, hx, hy, h => by
    rw [Nat.testBit_succ] at hx hy
    have := lt_of_bits t (x / 2) (y / 2) hx hy fun j hj => by
      rw [← Nat.testBit_succ, ← Nat.testBit_succ]
      exact h (j + 1) (by omega)
    omega
theorem xor_ord {x y b : Nat} (h : x < y) (hb : b.testBit (blen (x ^^^ y) - 1) = false) : x ^^^ b < y ^^^ b := by
  have hd : x ^^^ y ≠ 0 := fun e => by have := xor_zero_iff.1 e; omega
  have ht := bit_top hd
  have hup : ∀ j, blen (x ^^^ y) - 1 < j → x.testBit j = y.testBit j := fun j hj => by
    have h1 : (x ^^^ y).testBit j = false := bit_over (by omega)
    rw [Nat.testBit_xor] at h1
    cases h2 : x.testBit j <;> cases h3 : y.testBit j <;> simp_all
  rw [Nat.testBit_xor] at ht
  cases hx : x.testBit (blen (x ^^^ y) - 1) <;> cases hy : y.testBit (blen (x ^^^ y) - 1)
  · rw [hx, hy] at ht; cases ht
  · refine lt_of_bits (blen (x ^^^ y) - 1) _ _ (by rw [Nat.testBit_xor, hx, hb]; rfl) (by rw [Nat.testBit_xor, hy, hb]; rfl) fun j hj => by rw [Nat.testBit_xor, Nat.testBit_xor, hup j hj]
  · exact absurd (lt_of_bits (blen (x ^^^ y) - 1) _ _ hy hx fun j hj => (hup j hj).symm) (by omega)
  · rw [hx, hy] at ht; cases ht
structure Sums (p o : List Nat) : Prop where
  up : o.Pairwise (fun a b => a < b)
  sp : ∀ x ∈ o, Sp p x
  len : o.length = 2 ^ p.length
  hd : o.head? = some 0
theorem Sp.more {p : List Nat} {b x : Nat} (h : Sp p x) : Sp (p ++ [b]) x := Sp.sub (fun c hc => Sp.one (List.mem_append_left _ hc)) h
theorem sums_step {p o : List Nat} {b : Nat} (hp : Basis (p ++ [b])) (h : Sums p o) : Sums (p ++ [b]) (o ++ o.map fun x => x ^^^ b) := by
  have hb0 : b ≠ 0 := hp.pos b (by simp)
  have hup := hp.up
  rw [List.pairwise_append] at hup
  have hpb : ∀ c ∈ p, blen c < blen b := fun c hc => hup.2.2 c hc b (by simp)
  have hP : Basis p := ⟨fun c hc => hp.pos c (List.mem_append_left _ hc), hup.1, (List.pairwise_append.1 hp.clean).1⟩
  have hlow : ∀ x, Sp p x → blen x < blen b := fun x hx => by
    by_cases e : x = 0
    · subst e
      rw [blen_zero]
      exact blen_ne hb0
    · obtain ⟨c, hc, he⟩ := sp_top hP hx e
      rw [← he]
      exact hpb c hc
  have hcl : ∀ x y, Sp p x → Sp p y → x ≠ y → b.testBit (blen (x ^^^ y) - 1) = false := fun x y hx hy hne => by
    have hd : x ^^^ y ≠ 0 := fun e => hne (xor_zero_iff.1 e)
    obtain ⟨c, hc, he⟩ := sp_top hP (hx.add hy) hd
    rw [← he]
    exact basis_clean hp b (by simp) c (List.mem_append_left _ hc) (by have := hpb c hc; omega)
  refine ⟨?_, ?_, ?_, ?_⟩
  · rw [List.pairwise_append]
    refine ⟨h.up, ?_, ?_⟩
    · rw [List.pairwise_map]
      refine h.up.imp_of_mem fun {x y} hx hy hlt => ?_
      exact xor_ord hlt (hcl x y (h.sp x hx) (h.sp y hy) (by omega))
    · intro x hx y hy
      obtain ⟨z, hz, rfl⟩ := List.mem_map.1 hy
      have h1 := hlow x (h.sp x hx)
      have h2 := hlow z (h.sp z hz)
      have h3 : (z ^^^ b).testBit (blen b - 1) = true := by
        rw [Nat.testBit_xor, bit_top hb0, bit_over (x := z) (by omega)]
        rfl
      have h4 : x < 2 ^ (blen b - 1) := lt_of_blen (by omega)
      exact Nat.lt_of_lt_of_le h4 (Nat.ge_two_pow_of_testBit h3)
  · intro x hx
    rcases List.mem_append.1 hx with hx | hx
    · exact (h.sp x hx).more
    · obtain ⟨z, hz, rfl⟩ := List.mem_map.1 hx
      exact (h.sp z hz).more.add (Sp.one (by simp))
  · rw [List.length_append, List.length_map, h.len, List.length_append, List.length_singleton, Nat.pow_succ]
    omega
  · rw [List.head?_append, h.hd]
    rfl
theorem sums_go : ∀ (r p o : List Nat), Basis (p ++ r) → Sums p o → Sums (p ++ r) (sumsGo o r)
  | [], p, o, _, h => by simpa [sumsGo] using h
  | b :: r, p, o, hp, h => by
    have e : p ++ b :: r = (p ++ [b]) ++ r := by simp
    rw [e] at hp ⊢
    have hb : Basis (p ++ [b]) := ⟨fun x hx => hp.pos x (List.mem_append_left _ hx), (List.pairwise_append.1 hp.up).1, (List.pairwise_append.1 hp.clean).1⟩
    exact sums_go r (p ++ [b]) _ hp (sums_step hb h)
theorem sums_all {q : List Nat} (hq : Basis q) : Sums q (sums q) := by
  have := sums_go q [] [0] (by simpa using hq) ⟨by simp, fun x hx => by
    rw [List.mem_singleton.1 hx]
    exact Sp.zero _, rfl, rfl⟩
  rw [List.nil_append] at this
  exact this
end Go.Proofs.YtlohlngmagpepaaM
