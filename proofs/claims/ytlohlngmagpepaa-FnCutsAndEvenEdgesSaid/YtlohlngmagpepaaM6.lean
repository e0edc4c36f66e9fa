/- Plain laws on bases of sets: what is left of a set, a set put in. No program in sight. -/
import Derived.Test.YtlohlngmagpepaaM2
import Derived.Test.YtlohlngmagpepaaM4
namespace Go.Proofs.YtlohlngmagpepaaM
open Go.RowKit Go.Proofs.YtlohlngmagpepaaW.PrintWords Go.Proofs.YtlohlngmagpepaaW.PrintLast Go.Proofs.YtlohlngmagpepaaW.PrintMore
set_option linter.unusedVariables false
set_option linter.unusedSimpArgs false
def ints (l : List Nat) : List Int := l.map fun x : Nat => (x : Int)
theorem ints_length (l : List Nat) : (ints l).length = l.length := by simp [ints]
theorem ints_append (l r : List Nat) : ints (l ++ r) = ints l ++ ints r := by simp [ints]
theorem ints_get (l : List Nat) (i : Nat) (h : i < l.length) : rd (ints l) (i : Int) = (l[i] : Int) := by
  rw [rd_get (ints l) i (by rw [ints_length]; exact h)]
  simp [ints]
def redOne (s b : Nat) : Nat := if s.testBit (blen b - 1) = true then s ^^^ b else s
def red (l : List Nat) (s : Nat) : Nat := l.foldr (fun b s => redOne s b) s
structure Basis (l : List Nat) : Prop where
  pos : ∀ b ∈ l, b ≠ 0
  up : l.Pairwise (fun a b => blen a < blen b)
  clean : l.Pairwise (fun a b => b.testBit (blen a - 1) = false)
theorem blen_ne {x : Nat} (h : x ≠ 0) : 1 ≤ blen x := by rw [blen_pos h]; omega
theorem bit_top {x : Nat} (h : x ≠ 0) : x.testBit (blen x - 1) = true := blen_top (by have := blen_ne h; omega)
theorem bit_over {x i : Nat} (h : blen x ≤ i) : x.testBit i = false := Nat.testBit_lt_two_pow (lt_of_blen h)
theorem redOne_lt {s b n : Nat} (hs : s < 2 ^ n) (hb : b < 2 ^ n) : redOne s b < 2 ^ n := by
  unfold redOne
  split
  · exact Nat.xor_lt_two_pow hs hb
  · exact hs
theorem red_lt {n : Nat} : ∀ (l : List Nat) (s : Nat), (∀ b ∈ l, b < 2 ^ n) → s < 2 ^ n → red l s < 2 ^ n
  | [], s, _, h => h
  | b :: l, s, h, hs => redOne_lt (red_lt l s (fun x hx => h x (List.mem_cons_of_mem _ hx)) hs) (h b List.mem_cons_self)
theorem Basis.tail {b : Nat} {l : List Nat} (h : Basis (b :: l)) : Basis l := ⟨fun x hx => h.pos x (List.mem_cons_of_mem _ hx), (List.pairwise_cons.1 h.up).2, (List.pairwise_cons.1 h.clean).2⟩
theorem red_clean : ∀ (l : List Nat) (s : Nat), Basis l → ∀ b ∈ l, (red l s).testBit (blen b - 1) = false
  | [], _, _, b, hb => by simp at hb
  | c :: l, s, h, b, hb => by
    have hc := h.pos c List.mem_cons_self
    have ih := red_clean l s h.tail
    show (redOne (red l s) c).testBit (blen b - 1) = false
    rcases List.mem_cons.1 hb with rfl | hb
    · unfold redOne
      split
      · next e => rw [Nat.testBit_xor, e, bit_top hc]; rfl
      · next e => simpa using e
    · have h1 := (List.pairwise_cons.1 h.up).1 b hb
      have h2 : c.testBit (blen b - 1) = false := bit_over (by omega)
      unfold redOne
      split
      · rw [Nat.testBit_xor, ih b hb, h2]; rfl
      · exact ih b hb
def putOne (t b : Nat) : Nat := if b.testBit (blen t - 1) = true then b ^^^ t else b
def putTop (l : List Nat) (t : Nat) : List Nat := l.filter (fun b => decide (blen b < blen t)) ++ [t] ++ (l.filter (fun b => decide (blen t < blen b))).map (putOne t)
def put (l : List Nat) (s : Nat) : List Nat := if red l s = 0 then l else putTop l (red l s)
theorem split_filter (n : Nat) : ∀ (l : List Nat), l.Pairwise (fun a b => blen a < blen b) → (∀ b ∈ l, blen b ≠ n) → l.filter (fun b => decide (blen b < n)) ++ l.filter (fun b => decide (n < blen b)) = l
  | [], _, _ => rfl
  | c :: l, h, hn => by
    obtain ⟨h1, h2⟩ := List.pairwise_cons.1 h
    have ih := split_filter n l h2 (fun b hb => hn b (List.mem_cons_of_mem _ hb))
    have hc := hn c List.mem_cons_self
    by_cases e : blen c < n
    · rw [List.filter_cons, if_pos (by simpa using e), List.filter_cons, if_neg (by simp; omega), List.cons_append, ih]
    · have e0 : l.filter (fun b => decide (blen b < n)) = [] := by
        rw [List.filter_eq_nil_iff]
        intro b hb
        have := h1 b hb
        simp
        omega
      rw [List.filter_cons, if_neg (by simpa using e), List.filter_cons, if_pos (by simp; omega), e0]
      rw [e0] at ih
      rw [List.nil_append] at ih ⊢
      rw [ih]
theorem blen_eq_of {x k : Nat} (h : x < 2 ^ (k + 1)) (hb : x.testBit k = true) : blen x = k + 1 := by
  have h1 := blen_le h
  have h2 : ¬ blen x ≤ k := fun h3 => by rw [bit_over h3] at hb; exact absurd hb (by decide)
  omega
theorem putOne_blen {t b : Nat} (ht : t ≠ 0) (h : blen t < blen b) : blen (putOne t b) = blen b := by
  have hb : b ≠ 0 := fun e => by rw [e, blen_zero] at h; omega
  unfold putOne
  split
  · obtain ⟨k, hk⟩ : ∃ k, blen b = k + 1 := ⟨blen b - 1, by omega⟩
    rw [hk]
    have h1 : b < 2 ^ (k + 1) := lt_of_blen (by omega)
    have h2 : t < 2 ^ k := lt_of_blen (by omega)
    refine blen_eq_of (Nat.xor_lt_two_pow h1 (Nat.lt_of_lt_of_le h2 (Nat.pow_le_pow_right (by decide) (by omega)))) ?_
    rw [Nat.testBit_xor, Nat.testBit_lt_two_pow h2, blen_top hk]
    rfl
  · rfl
theorem putOne_lt {t b n : Nat} (ht : t < 2 ^ n) (hb : b < 2 ^ n) : putOne t b < 2 ^ n := by
  unfold putOne
  split
  · exact Nat.xor_lt_two_pow hb ht
  · exact hb
theorem putOne_clean {t b i : Nat} (h1 : b.testBit i = false) (h2 : t.testBit i = false) : (putOne t b).testBit i = false := by
  unfold putOne
  split
  · rw [Nat.testBit_xor, h1, h2]; rfl
  · exact h1
theorem putOne_top {t b : Nat} (ht : t ≠ 0) : (putOne t b).testBit (blen t - 1) = false := by
  unfold putOne
  split
  · next e => rw [Nat.testBit_xor, e, bit_top ht]; rfl
  · next e => simpa using e
theorem putOne_low {t b : Nat} (h : blen b < blen t) : putOne t b = b := by
  unfold putOne
  rw [if_neg]
  rw [bit_over (by omega)]
  decide
theorem putTop_basis {l : List Nat} (h : Basis l) {t : Nat} (ht : t ≠ 0) (hc : ∀ b ∈ l, t.testBit (blen b - 1) = false) : Basis (putTop l t) := by
  have hne : ∀ b ∈ l, blen b ≠ blen t := fun b hb e => by
    have := hc b hb
    rw [e, bit_top ht] at this
    exact absurd this (by decide)
  have m1 : ∀ b, b ∈ l.filter (fun b => decide (blen b < blen t)) → b ∈ l ∧ blen b < blen t := fun b hb => by simpa using List.mem_filter.1 hb
  have m2 : ∀ b, b ∈ l.filter (fun b => decide (blen t < blen b)) → b ∈ l ∧ blen t < blen b := fun b hb => by simpa using List.mem_filter.1 hb
  have m3 : ∀ b, b ∈ (l.filter (fun b => decide (blen t < blen b))).map (putOne t) → ∃ c ∈ l, blen t < blen c ∧ b = putOne t c := fun b hb => by
    obtain ⟨c, hc1, rfl⟩ := List.mem_map.1 hb
    exact ⟨c, (m2 c hc1).1, (m2 c hc1).2, rfl⟩
  unfold putTop
  refine ⟨fun b hb => ?_, ?_, ?_⟩
  · rcases List.mem_append.1 hb with hb | hb
    · rcases List.mem_append.1 hb with hb | hb
      · exact h.pos b (m1 b hb).1
      · rw [List.mem_singleton.1 hb]; exact ht
    · obtain ⟨c, _, h2, rfl⟩ := m3 b hb
      intro e
      have := putOne_blen ht h2
      rw [e, blen_zero] at this
      omega
  · rw [List.pairwise_append]
    refine ⟨?_, ?_, fun a ha b hb => ?_⟩
    · rw [List.pairwise_append]
      exact ⟨h.up.filter _, List.pairwise_singleton _ _, fun a ha b hb => by rw [List.mem_singleton.1 hb]; exact (m1 a ha).2⟩
    · rw [List.pairwise_map]
      refine (h.up.filter (fun b => decide (blen t < blen b))).imp_of_mem (fun {a b} ha hb hab => ?_)
      rw [putOne_blen ht (m2 a ha).2, putOne_blen ht (m2 b hb).2]
      exact hab
    · obtain ⟨c, _, h2, rfl⟩ := m3 b hb
      rw [putOne_blen ht h2]
      rcases List.mem_append.1 ha with ha | ha
      · have := (m1 a ha).2; omega
      · rw [List.mem_singleton.1 ha]; exact h2
  · rw [List.pairwise_append]
    refine ⟨?_, ?_, fun a ha b hb => ?_⟩
    · rw [List.pairwise_append]
      exact ⟨h.clean.filter _, List.pairwise_singleton _ _, fun a ha b hb => by rw [List.mem_singleton.1 hb]; exact hc a (m1 a ha).1⟩
    · rw [List.pairwise_map]
      refine (h.clean.filter (fun b => decide (blen t < blen b))).imp_of_mem (fun {a b} ha hb hab => ?_)
      rw [putOne_blen ht (m2 a ha).2]
      exact putOne_clean hab (hc a (m2 a ha).1)
    · obtain ⟨c, hcl, h2, rfl⟩ := m3 b hb
      rcases List.mem_append.1 ha with ha | ha
      · refine putOne_clean ?_ (hc a (m1 a ha).1)
        have hac : blen a < blen c := Nat.lt_trans (m1 a ha).2 h2
        have := h.clean.imp₂ (fun _ _ x y => And.intro x y) h.up
        have key : ∀ (r : List Nat), r.Pairwise (fun a b => b.testBit (blen a - 1) = false ∧ blen a < blen b) → a ∈ r → c ∈ r → c.testBit (blen a - 1) = false := by
          intro r
          induction r with
          | nil => intro _ hx; simp at hx
          | cons d r ih =>
            intro hp hx hy
            obtain ⟨p1, p2⟩ := List.pairwise_cons.1 hp
            rcases List.mem_cons.1 hx with rfl | hx2
            · rcases List.mem_cons.1 hy with e | hy2
              · rw [e] at hac; omega
              · exact (p1 c hy2).1
            · rcases List.mem_cons.1 hy with e | hy2
              · have := (p1 a hx2).2; rw [← e] at this; omega
              · exact ih p2 hx2 hy2
        exact key l this (m1 a ha).1 hcl
      · rw [List.mem_singleton.1 ha]
        exact putOne_top ht
theorem put_basis {l : List Nat} (h : Basis l) (s : Nat) : Basis (put l s) := by
  unfold put
  split
  · exact h
  · next e => exact putTop_basis h e (red_clean l s h)
theorem putTop_lt {n : Nat} {l : List Nat} {t : Nat} (h : ∀ b ∈ l, b < 2 ^ n) (ht : t < 2 ^ n) : ∀ b ∈ putTop l t, b < 2 ^ n := by
  intro b hb
  unfold putTop at hb
  rcases List.mem_append.1 hb with hb | hb
  · rcases List.mem_append.1 hb with hb | hb
    · exact h b (List.mem_filter.1 hb).1
    · rw [List.mem_singleton.1 hb]; exact ht
  · obtain ⟨c, hc, rfl⟩ := List.mem_map.1 hb
    exact putOne_lt ht (h c (List.mem_filter.1 hc).1)
theorem put_lt {n : Nat} {l : List Nat} {s : Nat} (h : ∀ b ∈ l, b < 2 ^ n) (hs : s < 2 ^ n) : ∀ b ∈ put l s, b < 2 ^ n := by
  unfold put
  split
  · exact h
  · exact putTop_lt h (red_lt l s h hs)
theorem putTop_length_le (l : List Nat) (t : Nat) : (putTop l t).length ≤ l.length + 1 := by
  unfold putTop
  have : ∀ r : List Nat, (r.filter (fun b => decide (blen b < blen t))).length + (r.filter (fun b => decide (blen t < blen b))).length ≤ r.length := by
    intro r
    induction r with
    | nil => simp
    | cons c r ih =>
      rw [List.filter_cons, List.filter_cons, List.length_cons]
      by_cases e : blen c < blen t
      · rw [if_pos (by simpa using e), if_neg (by simp; omega), List.length_cons]; omega
      · rw [if_neg (by simpa using e)]
        split
        · rw [List.length_cons]; omega
        · omega
  have := this l
  simp only [List.length_append, List.length_map, List.length_cons, List.length_nil]
  omega
theorem put_length_le (l : List Nat) (s : Nat) : (put l s).length ≤ l.length + 1 := by
  unfold put
  split
  · omega
  · exact putTop_length_le l _
theorem putTop_perm {l : List Nat} (h : Basis l) {t : Nat} (ht : t ≠ 0) (hc : ∀ b ∈ l, t.testBit (blen b - 1) = false) : (l.map (putOne t) ++ [t]).Perm (putTop l t) := by
  have hne : ∀ b ∈ l, blen b ≠ blen t := fun b hb e => by
    have := hc b hb
    rw [e, bit_top ht] at this
    exact absurd this (by decide)
  have hs := split_filter (blen t) l h.up hne
  have e : l.map (putOne t) = l.filter (fun b => decide (blen b < blen t)) ++ (l.filter (fun b => decide (blen t < blen b))).map (putOne t) := by
    conv => lhs; rw [← hs]
    rw [List.map_append]
    congr 1
    have : ∀ r : List Nat, (∀ b ∈ r, blen b < blen t) → r.map (putOne t) = r := by
      intro r hr
      have := List.map_congr_left (f := putOne t) (g := id) (l := r) (fun b hb => putOne_low (hr b hb))
      rw [this, List.map_id]
    exact this _ (fun b hb => by simpa using (List.mem_filter.1 hb).2)
  rw [e]
  unfold putTop
  rw [List.append_assoc, List.append_assoc]
  exact List.Perm.append_left _ List.perm_append_comm
def puts (l : List Nat) (m : List Nat) : List Nat := m.foldl put l
theorem puts_basis : ∀ (m : List Nat) {l : List Nat}, Basis l → Basis (puts l m)
  | [], _, h => h
  | s :: m, _, h => puts_basis m (put_basis h s)
theorem puts_length_le : ∀ (m : List Nat) (l : List Nat), (puts l m).length ≤ l.length + m.length
  | [], l => by simp [puts]
  | s :: m, l => by
    have h1 := puts_length_le m (put l s)
    have h2 := put_length_le l s
    show (puts (put l s) m).length ≤ _
    rw [List.length_cons]
    omega
theorem basis_nil : Basis [] := ⟨fun b hb => by simp at hb, List.Pairwise.nil, List.Pairwise.nil⟩
end Go.Proofs.YtlohlngmagpepaaM
