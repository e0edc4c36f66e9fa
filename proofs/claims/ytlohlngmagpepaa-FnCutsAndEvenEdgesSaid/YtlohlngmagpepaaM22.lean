/- Plain laws on sums of the sets of a basis: what they span, and that one span has one basis. No program in sight. -/
import Derived.Test.YtlohlngmagpepaaM8
namespace Go.Proofs.YtlohlngmagpepaaM
open Go.RowKit Go.Proofs.YtlohlngmagpepaaW.PrintWords Go.Proofs.YtlohlngmagpepaaW.PrintLast Go.Proofs.YtlohlngmagpepaaW.PrintMore
set_option linter.unusedVariables false
set_option linter.unusedSimpArgs false
theorem blen_xor' {x y : Nat} (hx : x ≠ 0) (h : blen y = blen x) : blen (x ^^^ y) < blen x := by
  have h1 := blen_ne hx
  have hy : y ≠ 0 := fun e => by rw [e, blen_zero] at h; omega
  have bx := bit_top hx
  have by_ := bit_top hy
  rw [h] at by_
  have lx : x < 2 ^ (blen x - 1 + 1) := lt_of_blen (by omega)
  have ly : y < 2 ^ (blen x - 1 + 1) := lt_of_blen (by omega)
  have : x ^^^ y < 2 ^ (blen x - 1) := low_top (Nat.xor_lt_two_pow lx ly) (by rw [Nat.testBit_xor, bx, by_]; rfl)
  have := blen_le this
  omega
theorem xor_zero_iff {a b : Nat} : a ^^^ b = 0 ↔ a = b := ⟨fun h => by have := congrArg (· ^^^ b) h; simpa [Nat.xor_assoc] using this, fun h => by rw [h, Nat.xor_self]⟩
theorem redOne_xor (s t b : Nat) : redOne (s ^^^ t) b = redOne s b ^^^ redOne t b := by
  unfold redOne
  rw [Nat.testBit_xor]
  cases s.testBit (blen b - 1) <;> cases t.testBit (blen b - 1)
  · simp
  · simp only [Bool.false_xor, if_true, Bool.false_eq_true, if_false]
    rw [Nat.xor_assoc]
  · simp only [Bool.xor_false, if_true, Bool.false_eq_true, if_false]
    rw [Nat.xor_assoc, Nat.xor_comm t b, Nat.xor_assoc]
  · simp only [Bool.xor_self, Bool.false_eq_true, if_false, if_true]
    rw [xor4, Nat.xor_self, Nat.xor_zero]
theorem redOne_zero (b : Nat) : redOne 0 b = 0 := by simp [redOne]
theorem red_xor : ∀ (l : List Nat) (s t : Nat), red l (s ^^^ t) = red l s ^^^ red l t
  | [], s, t => rfl
  | b :: l, s, t => by
    show redOne (red l (s ^^^ t)) b = redOne (red l s) b ^^^ redOne (red l t) b
    rw [red_xor l s t, redOne_xor]
theorem red_zero : ∀ l : List Nat, red l 0 = 0
  | [] => rfl
  | b :: l => by
    show redOne (red l 0) b = 0
    rw [red_zero l, redOne_zero]
def xs (c : List Nat) : Nat := c.foldr (fun a b => a ^^^ b) 0
theorem xs_cons (b : Nat) (c : List Nat) : xs (b :: c) = b ^^^ xs c := rfl
def Sp (l : List Nat) (x : Nat) : Prop := ∃ c : List Nat, (∀ b ∈ c, b ∈ l) ∧ x = xs c
theorem Sp.zero (l : List Nat) : Sp l 0 := ⟨[], fun _ h => by simp at h, rfl⟩
theorem Sp.one {l : List Nat} {b : Nat} (h : b ∈ l) : Sp l b := ⟨[b], fun x hx => by rw [List.mem_singleton.1 hx]; exact h, by simp [xs]⟩
theorem xs_append : ∀ (c d : List Nat), xs (c ++ d) = xs c ^^^ xs d
  | [], d => by simp [xs]
  | b :: c, d => by rw [List.cons_append, xs_cons, xs_cons, xs_append c d, Nat.xor_assoc]
theorem Sp.add {l : List Nat} {x y : Nat} (hx : Sp l x) (hy : Sp l y) : Sp l (x ^^^ y) := by
  obtain ⟨c, hc, rfl⟩ := hx
  obtain ⟨d, hd, rfl⟩ := hy
  exact ⟨c ++ d, fun b hb => (List.mem_append.1 hb).elim (hc b) (hd b), (xs_append c d).symm⟩
theorem Sp.sub {l m : List Nat} (h : ∀ b ∈ l, Sp m b) {x : Nat} (hx : Sp l x) : Sp m x := by
  obtain ⟨c, hc, rfl⟩ := hx
  have : ∀ c : List Nat, (∀ b ∈ c, b ∈ l) → Sp m (xs c) := fun c => by
    induction c with
    | nil => exact fun _ => Sp.zero m
    | cons b c ih => exact fun hc => by rw [xs_cons]; exact (h b (hc b List.mem_cons_self)).add (ih fun x hx => hc x (List.mem_cons_of_mem _ hx))
  exact this c hc
theorem red_sp : ∀ (l : List Nat) (s : Nat), Sp l (s ^^^ red l s)
  | [], s => by
    show Sp [] (s ^^^ s)
    rw [Nat.xor_self]
    exact Sp.zero _
  | b :: l, s => by
    have ih : Sp (b :: l) (s ^^^ red l s) := (red_sp l s).sub fun x hx => Sp.one (List.mem_cons_of_mem _ hx)
    show Sp (b :: l) (s ^^^ redOne (red l s) b)
    unfold redOne
    split
    · rw [← Nat.xor_assoc]
      exact ih.add (Sp.one List.mem_cons_self)
    · exact ih
theorem red_low : ∀ (l : List Nat) (x : Nat), (∀ b ∈ l, blen x < blen b) → red l x = x
  | [], x, _ => rfl
  | b :: l, x, h => by
    show redOne (red l x) b = x
    rw [red_low l x fun y hy => h y (List.mem_cons_of_mem _ hy)]
    unfold redOne
    rw [if_neg]
    have := h b List.mem_cons_self
    rw [bit_over (by omega)]
    decide
theorem red_mem : ∀ (l : List Nat), Basis l → ∀ b ∈ l, red l b = 0
  | [], _, b, hb => by simp at hb
  | c :: l, h, b, hb => by
    show redOne (red l b) c = 0
    rcases List.mem_cons.1 hb with rfl | hb
    · rw [red_low l b fun y hy => (List.pairwise_cons.1 h.up).1 y hy]
      unfold redOne
      rw [if_pos (bit_top (h.pos b List.mem_cons_self)), Nat.xor_self]
    · rw [red_mem l h.tail b hb, redOne_zero]
theorem sp_red {l : List Nat} (h : Basis l) {x : Nat} (hx : Sp l x) : red l x = 0 := by
  obtain ⟨c, hc, rfl⟩ := hx
  have : ∀ c : List Nat, (∀ b ∈ c, b ∈ l) → red l (xs c) = 0 := fun c => by
    induction c with
    | nil => exact fun _ => red_zero l
    | cons b c ih => exact fun hc => by rw [xs_cons, red_xor, red_mem l h b (hc b List.mem_cons_self), ih (fun x hx => hc x (List.mem_cons_of_mem _ hx)), Nat.xor_self]
  exact this c hc
theorem sp_iff {l : List Nat} (h : Basis l) (x : Nat) : Sp l x ↔ red l x = 0 := ⟨sp_red h, fun e => by
  have := red_sp l x
  rwa [e, Nat.xor_zero] at this⟩
theorem mem_putTop {l : List Nat} {t : Nat} (h : Basis l) (ht : t ≠ 0) (hc : ∀ b ∈ l, t.testBit (blen b - 1) = false) (x : Nat) : x ∈ putTop l t ↔ x = t ∨ ∃ b ∈ l, x = putOne t b := by
  have := (putTop_perm h ht hc).mem_iff (a := x)
  rw [← this, List.mem_append, List.mem_map, List.mem_singleton]
  constructor
  · rintro (⟨b, hb, rfl⟩ | rfl)
    · exact .inr ⟨b, hb, rfl⟩
    · exact .inl rfl
  · rintro (rfl | ⟨b, hb, rfl⟩)
    · exact .inr rfl
    · exact .inl ⟨b, hb, rfl⟩
theorem put_sp {l : List Nat} (h : Basis l) (s x : Nat) : Sp (put l s) x ↔ (Sp l x ∨ Sp l (x ^^^ s)) := by
  have hs := red_sp l s
  unfold put
  by_cases e : red l s = 0
  · rw [if_pos e]
    rw [e, Nat.xor_zero] at hs
    refine ⟨.inl, fun hx => hx.elim id fun hx => ?_⟩
    have := hx.add hs
    rwa [Nat.xor_assoc, Nat.xor_self, Nat.xor_zero] at this
  · rw [if_neg e]
    have hm := mem_putTop h e (fun b hb => red_clean l s h b hb)
    generalize hT : red l s = t at *
    have ht : Sp (putTop l t) t := Sp.one ((hm t).2 (.inl rfl))
    have hl : ∀ b ∈ l, Sp (putTop l t) b := fun b hb => by
      have h1 : Sp (putTop l t) (putOne t b) := Sp.one ((hm _).2 (.inr ⟨b, hb, rfl⟩))
      unfold putOne at h1
      split at h1
      · have := h1.add ht
        rwa [Nat.xor_assoc, Nat.xor_self, Nat.xor_zero] at this
      · exact h1
    have hs2 : Sp (putTop l t) s := by
      have := (hs.sub hl).add ht
      rwa [Nat.xor_assoc, Nat.xor_self, Nat.xor_zero] at this
    constructor
    · rintro ⟨c, hc, rfl⟩
      have : ∀ c : List Nat, (∀ b ∈ c, b ∈ putTop l t) → (Sp l (xs c) ∨ Sp l (xs c ^^^ s)) := fun c => by
        induction c with
        | nil => exact fun _ => .inl (Sp.zero l)
        | cons b c ih =>
          intro hc
          have ih := ih fun x hx => hc x (List.mem_cons_of_mem _ hx)
          have hts : Sp l (t ^^^ s) := by rw [Nat.xor_comm]; exact hs
          have hb : Sp l b ∨ Sp l (b ^^^ s) := by
            rcases (hm b).1 (hc b List.mem_cons_self) with rfl | ⟨d, hd, rfl⟩
            · exact .inr hts
            · unfold putOne
              split
              · exact .inr (by rw [Nat.xor_assoc]; exact (Sp.one hd).add hts)
              · exact .inl (Sp.one hd)
          rw [xs_cons]
          rcases hb with hb | hb <;> rcases ih with ih | ih
          · exact .inl (hb.add ih)
          · exact .inr (by rw [Nat.xor_assoc]; exact hb.add ih)
          · refine .inr ?_
            have := hb.add ih
            rwa [Nat.xor_assoc, Nat.xor_comm s, ← Nat.xor_assoc] at this
          · refine .inl ?_
            have := hb.add ih
            rwa [xor4, Nat.xor_self, Nat.xor_zero] at this
      exact this c hc
    · rintro (hx | hx)
      · exact hx.sub hl
      · have := (hx.sub hl).add hs2
        rwa [Nat.xor_assoc, Nat.xor_self, Nat.xor_zero] at this
theorem red_keeps : ∀ (l : List Nat) (x : Nat), l.Pairwise (fun a b => blen a < blen b) → (∀ b ∈ l, blen b ≠ blen x) → x ≠ 0 → (red l x).testBit (blen x - 1) = true ∧ blen (red l x) ≤ blen x
  | [], x, _, _, hx => ⟨bit_top hx, Nat.le_refl _⟩
  | b :: l, x, hp, hb, hx => by
    obtain ⟨h1, h2⟩ := red_keeps l x (List.pairwise_cons.1 hp).2 (fun y hy => hb y (List.mem_cons_of_mem _ hy)) hx
    have hne := hb b List.mem_cons_self
    have hx1 := blen_ne hx
    show (redOne (red l x) b).testBit (blen x - 1) = true ∧ blen (redOne (red l x) b) ≤ blen x
    by_cases hlt : blen x < blen b
    · have e : redOne (red l x) b = red l x := by
        unfold redOne
        rw [if_neg]
        rw [bit_over (by omega)]
        decide
      rw [e]
      exact ⟨h1, h2⟩
    · unfold redOne
      split
      · refine ⟨?_, ?_⟩
        · rw [Nat.testBit_xor, h1, bit_over (x := b) (by omega)]
          rfl
        · exact blen_le (Nat.xor_lt_two_pow (lt_of_blen h2) (lt_of_blen (by omega)))
      · exact ⟨h1, h2⟩
theorem sp_top {l : List Nat} (h : Basis l) {x : Nat} (hx : Sp l x) (h0 : x ≠ 0) : ∃ b ∈ l, blen b = blen x := by
  by_cases e : ∃ b ∈ l, blen b = blen x
  · exact e
  · have := (red_keeps l x h.up (fun b hb hbl => e ⟨b, hb, hbl⟩) h0).1
    rw [sp_red h hx] at this
    simp at this
theorem basis_clean {l : List Nat} : Basis l → ∀ b ∈ l, ∀ c ∈ l, blen c ≠ blen b → b.testBit (blen c - 1) = false := by
  induction l with
  | nil => exact fun _ b hb => by simp at hb
  | cons a l ih =>
    intro h b hb c hc hne
    rcases List.mem_cons.1 hb with e1 | hb2
    · rcases List.mem_cons.1 hc with e2 | hc2
      · exact absurd (by rw [e1, e2]) hne
      · have := (List.pairwise_cons.1 h.up).1 c hc2
        rw [← e1] at this
        exact bit_over (by omega)
    · rcases List.mem_cons.1 hc with e2 | hc2
      · rw [e2]
        exact (List.pairwise_cons.1 h.clean).1 b hb2
      · exact ih h.tail b hb2 c hc2 hne
end Go.Proofs.YtlohlngmagpepaaM
