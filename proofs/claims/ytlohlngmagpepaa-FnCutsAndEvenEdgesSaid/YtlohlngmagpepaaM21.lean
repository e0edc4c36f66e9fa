/- Plain laws on the solver: pairs of an effect and the presses that make it, quiet patterns, effects. No program in sight. -/
import Derived.Test.YtlohlngmagpepaaM10
import Derived.Test.YtlohlngmagpepaaM22
namespace Go.Proofs.YtlohlngmagpepaaM
open Go.RowKit Go.Proofs.YtlohlngmagpepaaW.PrintWords Go.Proofs.YtlohlngmagpepaaW.PrintLast Go.Proofs.YtlohlngmagpepaaW.PrintMore
set_option linter.unusedVariables false
set_option linter.unusedSimpArgs false
def findP (ps : List (Nat × Nat)) (b : Nat) : Option (Nat × Nat) := ps.find? fun p => blen p.1 == b
def reachN (ps : List (Nat × Nat)) : Nat → Nat → Nat → Nat × Nat
  | 0, x, y => (x, y)
  | f + 1, x, y => if x = 0 then (x, y) else match findP ps (blen x) with
    | none => (x, y)
    | some p => reachN ps f (x ^^^ p.1) (y ^^^ p.2)
def reach (ps : List (Nat × Nat)) (x : Nat) : Nat × Nat := reachN ps (blen x) x 0
theorem findP_mem {ps : List (Nat × Nat)} {b : Nat} {p : Nat × Nat} (h : findP ps b = some p) : p ∈ ps ∧ blen p.1 = b := by
  refine ⟨List.mem_of_find?_eq_some h, ?_⟩
  have := List.find?_some h
  simpa using this
theorem reachN_succ (ps : List (Nat × Nat)) (f x y : Nat) : reachN ps (f + 1) x y = if x = 0 then (x, y) else match findP ps (blen x) with
    | none => (x, y)
    | some p => reachN ps f (x ^^^ p.1) (y ^^^ p.2) := rfl
theorem reachN_same (ps : List (Nat × Nat)) : ∀ (f g x y : Nat), blen x ≤ f → blen x ≤ g → reachN ps f x y = reachN ps g x y
  | f, g, x, y, h, h2 => by
    by_cases e : x = 0
    · subst e
      cases f <;> cases g <;> simp [reachN]
    · have hb := blen_ne e
      match f, g, h, h2 with
      | 0, _, h, _ => omega
      | f + 1, 0, _, h2 => omega
      | f + 1, g + 1, h, h2 =>
        unfold reachN
        rw [if_neg e, if_neg e]
        cases e2 : findP ps (blen x) with
        | none => rfl
        | some p =>
          have hlt := blen_xor' e (findP_mem e2).2
          exact reachN_same ps f g (x ^^^ p.1) (y ^^^ p.2) (by omega) (by omega)
theorem reachN_more (ps : List (Nat × Nat)) (f x y : Nat) (h : blen x ≤ f) : reachN ps f x y = reachN ps (blen x) x y := reachN_same ps f (blen x) x y h (Nat.le_refl _)
theorem reachN_step {ps : List (Nat × Nat)} {x y : Nat} (hx : x ≠ 0) : reachN ps (blen x) x y = match findP ps (blen x) with
    | none => (x, y)
    | some p => reachN ps (blen (x ^^^ p.1)) (x ^^^ p.1) (y ^^^ p.2) := by
  obtain ⟨g, hg⟩ : ∃ g, blen x = g + 1 := ⟨blen x - 1, by have := blen_ne hx; omega⟩
  cases e2 : findP ps (blen x) with
  | none => rw [hg, reachN_succ, if_neg hx, e2]
  | some p =>
    have hb := blen_xor' hx (findP_mem e2).2
    rw [hg, reachN_succ, if_neg hx, e2]
    exact reachN_more ps g (x ^^^ p.1) (y ^^^ p.2) (by omega)
theorem reachN_zero (ps : List (Nat × Nat)) (y : Nat) : reachN ps (blen 0) 0 y = (0, y) := by rw [blen_zero]; rfl
def SmallP (ps : List (Nat × Nat)) : Prop := ∀ p ∈ ps, p.1 ≠ 0 ∧ p.1 < 2 ^ 62 ∧ p.2 < 2 ^ 62
theorem reachN_lt {ps : List (Nat × Nat)} {n m : Nat} (h : ∀ p ∈ ps, p.1 < 2 ^ n ∧ p.2 < 2 ^ m) : ∀ (f x y : Nat), x < 2 ^ n → y < 2 ^ m → (reachN ps f x y).1 < 2 ^ n ∧ (reachN ps f x y).2 < 2 ^ m
  | 0, x, y, hx, hy => ⟨hx, hy⟩
  | f + 1, x, y, hx, hy => by
    unfold reachN
    split
    · exact ⟨hx, hy⟩
    · cases e2 : findP ps (blen x) with
      | none => exact ⟨hx, hy⟩
      | some p =>
        have hp := h p (findP_mem e2).1
        exact reachN_lt h f _ _ (Nat.xor_lt_two_pow hx hp.1) (Nat.xor_lt_two_pow hy hp.2)
structure Sv where
  ps : List (Nat × Nat)
  quiet : List Nat
  image : List Nat
def svAdd (s : Sv) (i e : Nat) : Sv :=
  if (reach s.ps e).1 = 0 then ⟨s.ps, put s.quiet ((reach s.ps e).2 ^^^ 2 ^ i), put s.image e⟩
  else ⟨s.ps ++ [((reach s.ps e).1, (reach s.ps e).2 ^^^ 2 ^ i)], s.quiet, put s.image e⟩
def svGo : List Nat → Nat → Sv → Sv
  | [], _, s => s
  | e :: r, i, s => svGo r (i + 1) (svAdd s i e)
def svNew : Sv := ⟨[], [], []⟩
def svOf (l : List Nat) : Sv := svGo l 0 svNew
structure SvOk (n m k : Nat) (s : Sv) : Prop where
  ps : ∀ p ∈ s.ps, p.1 ≠ 0 ∧ p.1 < 2 ^ n ∧ p.2 < 2 ^ m
  q : ∀ b ∈ s.quiet, b < 2 ^ m
  qb : Basis s.quiet
  i : ∀ b ∈ s.image, b < 2 ^ n
  ib : Basis s.image
  pl : s.ps.length ≤ k
  ql : s.quiet.length ≤ k
  il : s.image.length ≤ k
theorem svOk_new (n m : Nat) : SvOk n m 0 svNew := ⟨fun _ h => by simp [svNew] at h, fun _ h => by simp [svNew] at h, basis_nil, fun _ h => by simp [svNew] at h, basis_nil, Nat.le_refl _, Nat.le_refl _, Nat.le_refl _⟩
theorem reach_lt {n m k : Nat} {s : Sv} (h : SvOk n m k s) {e : Nat} (he : e < 2 ^ n) : (reach s.ps e).1 < 2 ^ n ∧ (reach s.ps e).2 < 2 ^ m :=
  reachN_lt (fun p hp => (h.ps p hp).2) _ _ _ he (Nat.two_pow_pos m)
theorem svOk_add {n m k : Nat} {s : Sv} (h : SvOk n m k s) {i e : Nat} (hi : i < m) (he : e < 2 ^ n) : SvOk n m (k + 1) (svAdd s i e) := by
  obtain ⟨h1, h2⟩ := reach_lt h he
  have h3 : (reach s.ps e).2 ^^^ 2 ^ i < 2 ^ m := Nat.xor_lt_two_pow h2 (Nat.pow_lt_pow_right (by decide) hi)
  have hq := put_length_le s.quiet ((reach s.ps e).2 ^^^ 2 ^ i)
  have hi := put_length_le s.image e
  unfold svAdd
  split
  · exact ⟨h.ps, put_lt h.q h3, put_basis h.qb _, put_lt h.i he, put_basis h.ib _, Nat.le_succ_of_le h.pl, by have := h.ql; simp only; omega, by have := h.il; simp only; omega⟩
  · next e0 =>
    refine ⟨?_, h.q, h.qb, put_lt h.i he, put_basis h.ib _, by have := h.pl; simp only [List.length_append, List.length_singleton]; omega, Nat.le_succ_of_le h.ql, by have := h.il; simp only; omega⟩
    intro p hp
    rcases List.mem_append.1 hp with hp | hp
    · exact h.ps p hp
    · rw [List.mem_singleton.1 hp]
      exact ⟨e0, h1, h3⟩
theorem svOk_go {n m : Nat} : ∀ (l : List Nat) (i k : Nat) (s : Sv), SvOk n m k s → i + l.length ≤ m → (∀ e ∈ l, e < 2 ^ n) → SvOk n m (k + l.length) (svGo l i s)
  | [], i, k, s, h, _, _ => h
  | e :: r, i, k, s, h, hl, he => by
    rw [List.length_cons] at hl ⊢
    have := svOk_go r (i + 1) (k + 1) (svAdd s i e) (svOk_add h (by omega) (he e List.mem_cons_self)) (by omega) (fun x hx => he x (List.mem_cons_of_mem _ hx))
    rw [show k + (r.length + 1) = k + 1 + r.length by omega]
    exact this
theorem svGo_snoc : ∀ (l : List Nat) (i e : Nat) (s : Sv), svGo (l ++ [e]) i s = svAdd (svGo l i s) (i + l.length) e
  | [], i, e, s => rfl
  | x :: r, i, e, s => by
    rw [List.cons_append, svGo, svGo, svGo_snoc r (i + 1) e, List.length_cons, show i + 1 + r.length = i + (r.length + 1) by omega]
theorem svGo_take {l : List Nat} {j : Nat} (hj : j < l.length) : svGo (l.take (j + 1)) 0 svNew = svAdd (svGo (l.take j) 0 svNew) j (l[j]) := by
  rw [List.take_succ_eq_append_getElem hj, svGo_snoc, List.length_take, Nat.min_eq_left (by omega), Nat.zero_add]
end Go.Proofs.YtlohlngmagpepaaM
