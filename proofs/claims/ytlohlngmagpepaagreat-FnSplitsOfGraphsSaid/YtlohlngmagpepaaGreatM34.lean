/- Plain laws on systems of equations over two elements, in steps. No program in sight. -/
import Derived.Test.YtlohlngmagpepaaGreatM28
namespace Go.Proofs.YtlohlngmagpepaaGreatM
open Go.RowKit Go.Proofs.YtlohlngmagpepaaGreatW.PrintWords Go.Proofs.YtlohlngmagpepaaGreatW.PrintLast Go.Proofs.YtlohlngmagpepaaGreatW.PrintMore
set_option linter.unusedVariables false
set_option linter.unusedSimpArgs false
/-- An equation: the set whose number of chosen buttons is odd or even (1 or 0). -/
abbrev PEq := Nat × Nat
def paOne (e r : PEq) : PEq := if e.1.testBit (blen r.1 - 1) = true then (e.1 ^^^ r.1, e.2 ^^^ r.2) else e
def paRed (s : List PEq) (e : PEq) : PEq := s.foldl paOne e
def paPut (s : List PEq) (e : PEq) : List PEq × Bool := if (paRed s e).1 = 0 then (s, decide ((paRed s e).2 = 0)) else (s ++ [paRed s e], true)
/-- A set of buttons solves all equations. -/
def PSol (s : List PEq) (x : Nat) : Prop := ∀ e ∈ s, oddm e.1 x = decide (e.2 = 1)
structure PSys (n : Nat) (s : List PEq) : Prop where
  ok : ∀ e ∈ s, e.1 ≠ 0 ∧ e.1 < 2 ^ n ∧ e.2 < 2
  low : s.Pairwise fun a b => b.1.testBit (blen a.1 - 1) = false
theorem psys_nil (n : Nat) : PSys n [] := ⟨fun _ h => by simp at h, List.Pairwise.nil⟩
theorem bit2 {a b : Nat} (ha : a < 2) (hb : b < 2) : a ^^^ b < 2 ∧ (decide (a ^^^ b = 1) = (decide (a = 1) ^^ decide (b = 1))) := by
  have h1 : a = 0 ∨ a = 1 := by omega
  have h2 : b = 0 ∨ b = 1 := by omega
  rcases h1 with rfl | rfl <;> rcases h2 with rfl | rfl <;> decide
theorem paOne_lt {n : Nat} {e r : PEq} (he : e.1 < 2 ^ n ∧ e.2 < 2) (hr : r.1 < 2 ^ n ∧ r.2 < 2) : (paOne e r).1 < 2 ^ n ∧ (paOne e r).2 < 2 := by
  unfold paOne
  split
  · exact ⟨Nat.xor_lt_two_pow he.1 hr.1, (bit2 he.2 hr.2).1⟩
  · exact he
theorem paOne_sol {n : Nat} (hn : n ≤ 63) {e r : PEq} {x : Nat} (hx : x < 2 ^ n) (he : e.2 < 2) (hr2 : r.2 < 2) (hr : oddm r.1 x = decide (r.2 = 1)) : (oddm (paOne e r).1 x = decide ((paOne e r).2 = 1)) ↔ (oddm e.1 x = decide (e.2 = 1)) := by
  unfold paOne
  split
  · show (oddm (e.1 ^^^ r.1) x = decide (e.2 ^^^ r.2 = 1)) ↔ _
    rw [oddm_xor hn _ _ hx, (bit2 he hr2).2, hr]
    cases oddm e.1 x <;> cases decide (e.2 = 1) <;> cases decide (r.2 = 1) <;> simp
  · exact Iff.rfl
theorem paRed_go {n : Nat} (hn : n ≤ 63) : ∀ (s : List PEq) (e : PEq), (∀ r ∈ s, r.1 < 2 ^ n ∧ r.2 < 2) → e.1 < 2 ^ n ∧ e.2 < 2 → ((paRed s e).1 < 2 ^ n ∧ (paRed s e).2 < 2) ∧ ∀ x, x < 2 ^ n → PSol s x → ((oddm (paRed s e).1 x = decide ((paRed s e).2 = 1)) ↔ (oddm e.1 x = decide (e.2 = 1)))
  | [], e, _, he => ⟨he, fun x _ _ => Iff.rfl⟩
  | r :: s, e, hs, he => by
    have h1 := hs r (by simp)
    obtain ⟨h2, h3⟩ := paRed_go hn s (paOne e r) (fun q hq => hs q (List.mem_cons_of_mem _ hq)) (paOne_lt he h1)
    refine ⟨h2, fun x hx hsol => ?_⟩
    rw [← paOne_sol hn hx he.2 h1.2 (hsol r (by simp))]
    exact h3 x hx fun q hq => hsol q (List.mem_cons_of_mem _ hq)
/-- What is left has none of the tops. -/
theorem paRed_keeps : ∀ (s : List PEq) (e : PEq) (t : Nat), (∀ r ∈ s, r.1.testBit t = false) → (paRed s e).1.testBit t = e.1.testBit t
  | [], e, t, _ => rfl
  | r :: s, e, t, h => by
    have h1 := paRed_keeps s (paOne e r) t fun q hq => h q (List.mem_cons_of_mem _ hq)
    have h2 : (paOne e r).1.testBit t = e.1.testBit t := by
      unfold paOne
      split
      · show (e.1 ^^^ r.1).testBit t = _
        rw [Nat.testBit_xor, h r (by simp), Bool.xor_false]
      · rfl
    exact h1.trans h2
theorem paRed_tops : ∀ (s : List PEq) (e : PEq), (∀ r ∈ s, r.1 ≠ 0) → s.Pairwise (fun a b => b.1.testBit (blen a.1 - 1) = false) → ∀ r ∈ s, (paRed s e).1.testBit (blen r.1 - 1) = false
  | [], e, _, _, r, hr => by simp at hr
  | q :: s, e, h0, hp, r, hr => by
    obtain ⟨h1, h2⟩ := List.pairwise_cons.1 hp
    rcases List.mem_cons.1 hr with rfl | hr
    · show (paRed s (paOne e r)).1.testBit _ = false
      rw [paRed_keeps s _ _ fun b hb => h1 b hb]
      have ht := bit_top (h0 r (by simp))
      unfold paOne
      split
      · next e1 =>
        show (e.1 ^^^ r.1).testBit _ = false
        rw [Nat.testBit_xor, e1, ht]
        rfl
      · next e1 => simpa using e1
    · exact paRed_tops s (paOne e q) (fun b hb => h0 b (List.mem_cons_of_mem _ hb)) h2 r hr
theorem psys_put {n : Nat} (hn : n ≤ 63) {s : List PEq} (h : PSys n s) {e : PEq} (he : e.1 < 2 ^ n ∧ e.2 < 2) : PSys n (paPut s e).1 := by
  have hr := (paRed_go hn s e (fun r hr => ⟨(h.ok r hr).2.1, (h.ok r hr).2.2⟩) he).1
  unfold paPut
  split
  · exact h
  · next e0 =>
    refine ⟨fun r hr2 => ?_, List.pairwise_append.2 ⟨h.low, by simp, fun a ha b hb => ?_⟩⟩
    · rcases List.mem_append.1 hr2 with h1 | h1
      · exact h.ok r h1
      · rw [List.mem_singleton.1 h1]
        exact ⟨e0, hr.1, hr.2⟩
    · rw [List.mem_singleton.1 hb]
      exact paRed_tops s e (fun r hr => (h.ok r hr).1) h.low a ha
/-- There is a solution, whatever is wanted. -/
theorem psys_sol {n : Nat} (hn : n ≤ 63) : ∀ (s : List PEq), PSys n s → ∃ x, x < 2 ^ n ∧ PSol s x
  | [], _ => ⟨0, Nat.two_pow_pos n, fun _ h => by simp at h⟩
  | r :: s, h => by
    obtain ⟨h1, h2⟩ := List.pairwise_cons.1 h.low
    obtain ⟨x, hx, hs⟩ := psys_sol hn s ⟨fun e he => h.ok e (List.mem_cons_of_mem _ he), h2⟩
    obtain ⟨r0, rn, r2⟩ := h.ok r (by simp)
    by_cases e : oddm r.1 x = decide (r.2 = 1)
    · exact ⟨x, hx, fun q hq => by
        rcases List.mem_cons.1 hq with rfl | hq
        · exact e
        · exact hs q hq⟩
    · have ht := bit_top r0
      have hb := blen_ne r0
      have hbn : blen r.1 ≤ n := blen_le rn
      have hp : (2 : Nat) ^ (blen r.1 - 1) < 2 ^ n := Nat.pow_lt_pow_right (by decide) (by omega)
      have hxo : ∀ q : PEq, oddm q.1 (x ^^^ 2 ^ (blen r.1 - 1)) = (oddm q.1 x ^^ q.1.testBit (blen r.1 - 1)) := fun q => by
        by_cases hq : q.1 < 2 ^ n
        · rw [oddm_comm, oddm_xor hn _ _ hq, oddm_comm, oddm_pow]
        · -- only the low part counts
          have e1 : ∀ y, y < 2 ^ n → oddm q.1 y = oddm (q.1 % 2 ^ n) y := fun y hy => by
            unfold oddm
            have e3 : q.1 &&& y = q.1 % 2 ^ n &&& y := by
              apply Nat.eq_of_testBit_eq
              intro i
              rw [Nat.testBit_and, Nat.testBit_and, Nat.testBit_mod_two_pow]
              by_cases hi : i < n
              · rw [decide_eq_true hi, Bool.true_and]
              · rw [show y.testBit i = false from Nat.testBit_lt_two_pow (Nat.lt_of_lt_of_le hy (Nat.pow_le_pow_right (by decide) (by omega))), Bool.and_false, Bool.and_false]
            rw [e3]
          rw [e1 _ (Nat.xor_lt_two_pow hx hp), e1 x hx, oddm_comm, oddm_xor hn _ _ (Nat.mod_lt _ (Nat.two_pow_pos n)), oddm_comm, oddm_pow, Nat.testBit_mod_two_pow, decide_eq_true (by omega), Bool.true_and]
      refine ⟨x ^^^ 2 ^ (blen r.1 - 1), Nat.xor_lt_two_pow hx hp, fun q hq => ?_⟩
      rw [hxo]
      rcases List.mem_cons.1 hq with rfl | hq
      · rw [ht]
        cases h3 : oddm q.1 x <;> cases h4 : decide (q.2 = 1) <;> rw [h3, h4] at e <;> simp_all
      · rw [h1 q hq, Bool.xor_false]
        exact hs q hq
/-- An equation more: refused if no solution meets it, else the solutions are those that do. -/
theorem put_sol {n : Nat} (hn : n ≤ 63) {s : List PEq} (h : PSys n s) {e : PEq} (he : e.1 < 2 ^ n ∧ e.2 < 2) :
    ((paPut s e).2 = true ↔ ∃ x, x < 2 ^ n ∧ PSol s x ∧ oddm e.1 x = decide (e.2 = 1)) ∧ ((paPut s e).2 = true → ∀ x, x < 2 ^ n → (PSol (paPut s e).1 x ↔ (PSol s x ∧ oddm e.1 x = decide (e.2 = 1)))) ∧ ((paPut s e).2 = false → (paPut s e).1 = s) := by
  obtain ⟨hr, hs⟩ := paRed_go hn s e (fun r hr => ⟨(h.ok r hr).2.1, (h.ok r hr).2.2⟩) he
  have hP := psys_put hn h he
  by_cases e0 : (paRed s e).1 = 0
  · have ep : paPut s e = (s, decide ((paRed s e).2 = 0)) := by unfold paPut; rw [if_pos e0]
    have hall : ∀ x, x < 2 ^ n → PSol s x → (oddm e.1 x = decide (e.2 = 1) ↔ (paRed s e).2 = 0) := fun x hx hsol => by
      rw [← hs x hx hsol, e0, oddm_zero]
      have := hr.2
      constructor
      · intro h1
        have := of_decide_eq_false h1.symm
        omega
      · intro h1
        rw [h1]
        rfl
    rw [ep]
    refine ⟨?_, ?_, fun _ => rfl⟩
    · constructor
      · intro h1
        obtain ⟨x, hx, hsol⟩ := psys_sol hn s h
        exact ⟨x, hx, hsol, (hall x hx hsol).2 (of_decide_eq_true h1)⟩
      · rintro ⟨x, hx, hsol, h1⟩
        exact decide_eq_true ((hall x hx hsol).1 h1)
    · intro h1 x hx
      exact ⟨fun hsol => ⟨hsol, (hall x hx hsol).2 (of_decide_eq_true h1)⟩, fun h2 => h2.1⟩
  · have ep : paPut s e = (s ++ [paRed s e], true) := by unfold paPut; rw [if_neg e0]
    rw [ep] at hP ⊢
    have hiff : ∀ x, x < 2 ^ n → (PSol (s ++ [paRed s e]) x ↔ (PSol s x ∧ oddm e.1 x = decide (e.2 = 1))) := fun x hx => by
      constructor
      · intro h1
        have h2 : PSol s x := fun r hr => h1 r (List.mem_append_left _ hr)
        exact ⟨h2, (hs x hx h2).1 (h1 _ (by simp))⟩
      · rintro ⟨h2, h3⟩ r hr2
        rcases List.mem_append.1 hr2 with h4 | h4
        · exact h2 r h4
        · rw [List.mem_singleton.1 h4]
          exact (hs x hx h2).2 h3
    refine ⟨⟨fun _ => ?_, fun _ => rfl⟩, fun _ => hiff, fun h1 => by cases h1⟩
    obtain ⟨x, hx, hsol⟩ := psys_sol hn _ hP
    exact ⟨x, hx, (hiff x hx).1 hsol⟩
end Go.Proofs.YtlohlngmagpepaaGreatM
