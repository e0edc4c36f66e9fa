/- Plain laws on nullities of paths and circles: as the remainders tell, counted one by one. No program in sight. -/
import Derived.Test.YtlioggjncgfioaaM21
namespace Go.Proofs.YtlioggjncgfioaaM
open Go.RowKit Go.Proofs.YtlioggjncgfioaaW.PrintWords Go.Proofs.YtlioggjncgfioaaW.PrintLast Go.Proofs.YtlioggjncgfioaaW.PrintMore
set_option linter.unusedVariables false
set_option linter.unusedSimpArgs false
/-- The places of a number, as a machine counts them. -/
def bl (x : Nat) : Nat := if x = 0 then 0 else Nat.log2 x + 1
theorem blen_bl : blen = bl := funext fun x => by
  unfold bl
  by_cases e : x = 0
  · subst e
    rw [blen_zero, if_pos rfl]
  · rw [if_neg e]
    have h1 := blen_iff (x := x) (k := Nat.log2 x + 1)
    have h2 := blen_iff (x := x) (k := Nat.log2 x)
    have h3 := Nat.lt_log2_self (n := x)
    have h4 := Nat.log2_self_le e
    have : blen x ≤ Nat.log2 x + 1 := h1.2 h3
    by_cases h5 : blen x ≤ Nat.log2 x
    · have := h2.1 h5
      omega
    · omega
def redG (B : Nat → Nat) (l : List Nat) (s : Nat) : Nat := l.foldr (fun b s => if s.testBit (B b - 1) = true then s ^^^ b else s) s
def putG (B : Nat → Nat) (l : List Nat) (s : Nat) : List Nat := if redG B l s = 0 then l else
  l.filter (fun b => decide (B b < B (redG B l s))) ++ [redG B l s] ++ (l.filter (fun b => decide (B (redG B l s) < B b))).map fun b => if b.testBit (B (redG B l s) - 1) = true then b ^^^ redG B l s else b
def reachG (B : Nat → Nat) (ps : List (Nat × Nat)) : Nat → Nat → Nat → Nat × Nat
  | 0, x, y => (x, y)
  | f + 1, x, y => if x = 0 then (x, y) else match ps.find? fun p => B p.1 == B x with
    | none => (x, y)
    | some p => reachG B ps f (x ^^^ p.1) (y ^^^ p.2)
def svAddG (B : Nat → Nat) (s : Sv) (i e : Nat) : Sv :=
  if (reachG B s.ps (B e) e 0).1 = 0 then ⟨s.ps, putG B s.quiet ((reachG B s.ps (B e) e 0).2 ^^^ 2 ^ i), putG B s.image e⟩
  else ⟨s.ps ++ [((reachG B s.ps (B e) e 0).1, (reachG B s.ps (B e) e 0).2 ^^^ 2 ^ i)], s.quiet, putG B s.image e⟩
def svGoG (B : Nat → Nat) : List Nat → Nat → Sv → Sv
  | [], _, s => s
  | e :: r, i, s => svGoG B r (i + 1) (svAddG B s i e)
theorem reachN_G (ps : List (Nat × Nat)) : ∀ (f x y : Nat), reachN ps f x y = reachG blen ps f x y
  | 0, x, y => rfl
  | f + 1, x, y => by
    rw [reachN_succ]
    show _ = if x = 0 then (x, y) else match findP ps (blen x) with
      | none => (x, y)
      | some p => reachG blen ps f (x ^^^ p.1) (y ^^^ p.2)
    cases findP ps (blen x) with
    | none => rfl
    | some p => simp only [reachN_G ps f]
theorem svAdd_G (s : Sv) (i e : Nat) : svAdd s i e = svAddG blen s i e := by
  unfold svAdd svAddG reach
  rw [reachN_G]
  rfl
theorem svGo_G : ∀ (l : List Nat) (i : Nat) (s : Sv), svGo l i s = svGoG blen l i s
  | [], _, _ => rfl
  | e :: r, i, s => by rw [svGo, svGoG, svAdd_G, svGo_G r]
theorem svOf_bl (l : List Nat) : svOf l = svGoG bl l 0 svNew := by rw [svOf, svGo_G, blen_bl]
/-- How many sets are in the basis of quiet patterns. -/
def quietN (l : List Int) (own : Bool) : Nat := (svOf (togs l own)).quiet.length
def pathNul (n : Nat) (own : Bool) : Nat := if own = true then n % 3 / 2 else n % 2
def circleNul (n : Nat) (own : Bool) : Nat := if own = true then (if n % 3 = 0 then 2 else 0) else 2 - n % 2
theorem path_all : ∀ n, n < 17 → ∀ own, own ∈ [true, false] → 1 ≤ n → (svGoG bl (togs (ints (pathL n)) own) 0 svNew).quiet.length = pathNul n own := by decide +kernel
theorem circle_all : ∀ n, n < 17 → ∀ own, own ∈ [true, false] → 3 ≤ n → (svGoG bl (togs (ints (circleL n)) own) 0 svNew).quiet.length = circleNul n own := by decide +kernel
theorem own_in (own : Bool) : own ∈ [true, false] := by cases own <;> decide
theorem path_quiet {n : Nat} (own : Bool) (h1 : 1 ≤ n) (h2 : n ≤ 16) : quietN (ints (pathL n)) own = pathNul n own := by
  unfold quietN
  rw [svOf_bl]
  exact path_all n (by omega) own (own_in own) h1
theorem circle_quiet {n : Nat} (own : Bool) (h1 : 3 ≤ n) (h2 : n ≤ 16) : quietN (ints (circleL n)) own = circleNul n own := by
  unfold quietN
  rw [svOf_bl]
  exact circle_all n (by omega) own (own_in own) h1
/-- The same for polynomials. -/
def pdivG (B : Nat → Nat) (p q : Nat) : Nat × Nat := pdivm q (B q - 1) (B p + 1 - B q) 0 p
def pgcdF (B : Nat → Nat) : Nat → Nat → Nat → Nat
  | 0, p, _ => p
  | f + 1, p, q => if q = 0 then p else pgcdF B f q (pdivG B p q).2
theorem pgcd_F : ∀ (f p q : Nat), blen q ≤ f → pgcd p q = pgcdF blen f p q
  | 0, p, q, h => by
    have : q = 0 := by
      have := lt_of_blen h
      rw [Nat.pow_zero] at this
      omega
    rw [this, pgcd_zero]
    rfl
  | f + 1, p, q, h => by
    by_cases e : q = 0
    · rw [e, pgcd_zero]
      rfl
    · have := pdiv_rest_blen (p := p) e
      rw [pgcd_step e, pgcd_F f q (pdiv p q).2 (by omega)]
      show _ = if q = 0 then p else _
      rw [if_neg e]
      rfl
def fibI : Nat → Nat × Nat
  | 0 => (fibp 0, fibp 1)
  | n + 1 => ((fibI n).2, (fibI n).2 * 2 ^^^ (fibI n).1)
theorem fibI_eq : ∀ n : Nat, fibI n = (fibp n, fibp (n + 1))
  | 0 => rfl
  | n + 1 => by
    unfold fibI
    rw [fibI_eq n]
    rfl
def pshiftG (B : Nat → Nat) (p : Nat) : Nat := pshiftm p (B p) 0
def gridG (a b : Nat) (own : Bool) : Int := (bl (pgcdF bl 100 (fibI (b + 1)).1 (if own = true then pshiftG bl (fibI (a + 1)).1 else (fibI (a + 1)).1)) : Int) - 1
theorem gridNul_G {a b : Nat} (own : Bool) (ha : a ≤ 40) (hb : b ≤ 40) : gridNul a b own = gridG a b own := by
  have h1 := fibp_lt41 ha
  have h2 : (if own = true then pshift (fibp (a + 1)) else fibp (a + 1)) < 2 ^ 41 := by
    split
    · exact pshift_lt41 h1
    · exact h1
  have h3 := blen_le h2
  unfold gridNul gridG pdeg
  rw [pgcd_F 100 _ _ (by omega), fibI_eq, fibI_eq, ← blen_bl]
  rfl
theorem grid_all : ∀ n, n < 41 → ∀ own, own ∈ [true, false] → 1 ≤ n → gridG n 1 own = (pathNul n own : Int) ∧ gridG 1 n own = (pathNul n own : Int) := by decide +kernel
theorem grid_path {n : Nat} (own : Bool) (h1 : 1 ≤ n) (h2 : n ≤ 40) : gridNul n 1 own = (pathNul n own : Int) ∧ gridNul 1 n own = (pathNul n own : Int) := by
  rw [gridNul_G own h2 (by omega), gridNul_G own (by omega) h2]
  exact grid_all n (by omega) own (own_in own) h1
theorem path_good_all : ∀ n, n < 17 → 1 ≤ n → good (ints (pathL n)) = true := by decide +kernel
theorem circle_good_all : ∀ n, n < 17 → 3 ≤ n → good (ints (circleL n)) = true := by decide +kernel
def pathR (n : Int) (own : Bool) : Int × Bool := if (decide (1 ≤ n) && decide (n ≤ 1000000)) = true then ((pathNul n.toNat own : Nat), true) else (0, false)
def circleR (n : Int) (own : Bool) : Int × Bool := if (decide (3 ≤ n) && decide (n ≤ 1000000)) = true then ((circleNul n.toNat own : Nat), true) else (0, false)
theorem tmod_nat (n : Nat) (m : Nat) : Int.tmod (n : Int) (m : Int) = ((n % m : Nat) : Int) := (Int.ofNat_tmod n m).symm
theorem pathR_ok {n x : Int} {own : Bool} (h : pathR n own = (x, true)) : ∃ m : Nat, n = m ∧ 1 ≤ m ∧ x = (pathNul m own : Int) := by
  unfold pathR at h
  split at h
  · next e =>
    simp only [Bool.and_eq_true, decide_eq_true_eq] at e
    injection h with h1 h2
    exact ⟨n.toNat, by omega, by omega, h1.symm⟩
  · cases h
theorem circleR_ok {n x : Int} {own : Bool} (h : circleR n own = (x, true)) : ∃ m : Nat, n = m ∧ 3 ≤ m ∧ x = (circleNul m own : Int) := by
  unfold circleR at h
  split at h
  · next e =>
    simp only [Bool.and_eq_true, decide_eq_true_eq] at e
    injection h with h1 h2
    exact ⟨n.toNat, by omega, by omega, h1.symm⟩
  · cases h
theorem path_nul {n x : Int} {own : Bool} (h : pathR n own = (x, true)) (hn : n ≤ 16) : ∃ m : Nat, n = m ∧ 1 ≤ m ∧ m ≤ 16 ∧ good (ints (pathL m)) = true ∧ ((svOf (togs (ints (pathL m)) own)).quiet.length : Int) = x := by
  obtain ⟨m, rfl, h1, rfl⟩ := pathR_ok h
  refine ⟨m, rfl, h1, by omega, path_good_all m (by omega) h1, ?_⟩
  exact congrArg _ (path_quiet own h1 (by omega))
theorem circle_nul {n x : Int} {own : Bool} (h : circleR n own = (x, true)) (hn : n ≤ 16) : ∃ m : Nat, n = m ∧ 3 ≤ m ∧ m ≤ 16 ∧ good (ints (circleL m)) = true ∧ ((svOf (togs (ints (circleL m)) own)).quiet.length : Int) = x := by
  obtain ⟨m, rfl, h1, rfl⟩ := circleR_ok h
  refine ⟨m, rfl, h1, by omega, circle_good_all m (by omega) h1, ?_⟩
  exact congrArg _ (circle_quiet own h1 (by omega))
theorem grid_nul {n x : Int} {own : Bool} (h : pathR n own = (x, true)) (hn : n ≤ 40) : gridNullity n 1 own = (x, true) ∧ gridNullity 1 n own = (x, true) := by
  obtain ⟨m, rfl, h1, rfl⟩ := pathR_ok h
  obtain ⟨g1, g2⟩ := grid_path own h1 (show m ≤ 40 by omega)
  have e : isSide (m : Int) = true := by simp [isSide]; omega
  have e1 : isSide 1 = true := by decide
  unfold gridNullity
  rw [e, e1, Int.toNat_natCast]
  exact ⟨congrArg (·, true) g1, congrArg (·, true) g2⟩
end Go.Proofs.YtlioggjncgfioaaM
