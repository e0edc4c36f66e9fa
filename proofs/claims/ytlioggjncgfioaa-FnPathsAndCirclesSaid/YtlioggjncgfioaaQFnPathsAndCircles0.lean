/- What the functions of FnPathsAndCircles compute, in plain words. -/
import Derived.Test.YtlioggjncgfioaaPFnPathsAndCirclesx
import Derived.Test.YtlioggjncgfioaaM1
import Derived.Test.YtlioggjncgfioaaM2
import Derived.Test.YtlioggjncgfioaaM4
import Derived.Test.YtlioggjncgfioaaM5
import Derived.Test.YtlioggjncgfioaaM6
import Derived.Test.YtlioggjncgfioaaM8
import Derived.Test.YtlioggjncgfioaaM10
import Derived.Test.YtlioggjncgfioaaM17
import Derived.Test.YtlioggjncgfioaaM21
import Derived.Test.YtlioggjncgfioaaM22
import Derived.Test.YtlioggjncgfioaaM24
namespace Go.Proofs.Ytlioggjncgfioaa.Pure
open Go.RowKit Go.Proofs.Ytlioggjncgfioaa.PFnPathsAndCircles Go.Proofs.YtlioggjncgfioaaW.PrintWords Go.Proofs.YtlioggjncgfioaaW.PrintLast Go.Proofs.YtlioggjncgfioaaW.PrintMore Go.Proofs.YtlioggjncgfioaaM
set_option linter.unusedVariables false
set_option linter.unusedSimpArgs false
/-! bits_Len64 -/
theorem bits_Len64.tab_rows : ∀ i, i < 256 → bt (⟨#[0, 1, 2, 2, 3, 3, 3, 3, 4, 4, 4, 4, 4, 4, 4, 4, 5, 5, 5, 5, 5, 5, 5, 5, 5, 5, 5, 5, 5, 5, 5, 5, 6, 6, 6, 6, 6, 6, 6, 6, 6, 6, 6, 6, 6, 6, 6, 6, 6, 6, 6, 6, 6, 6, 6, 6, 6, 6, 6, 6, 6, 6, 6, 6, 7, 7, 7, 7, 7, 7, 7, 7, 7, 7, 7, 7, 7, 7, 7, 7, 7, 7, 7, 7, 7, 7, 7, 7, 7, 7, 7, 7, 7, 7, 7, 7, 7, 7, 7, 7, 7, 7, 7, 7, 7, 7, 7, 7, 7, 7, 7, 7, 7, 7, 7, 7, 7, 7, 7, 7, 7, 7, 7, 7, 7, 7, 7, 7, 8, 8, 8, 8, 8, 8, 8, 8, 8, 8, 8, 8, 8, 8, 8, 8, 8, 8, 8, 8, 8, 8, 8, 8, 8, 8, 8, 8, 8, 8, 8, 8, 8, 8, 8, 8, 8, 8, 8, 8, 8, 8, 8, 8, 8, 8, 8, 8, 8, 8, 8, 8, 8, 8, 8, 8, 8, 8, 8, 8, 8, 8, 8, 8, 8, 8, 8, 8, 8, 8, 8, 8, 8, 8, 8, 8, 8, 8, 8, 8, 8, 8, 8, 8, 8, 8, 8, 8, 8, 8, 8, 8, 8, 8, 8, 8, 8, 8, 8, 8, 8, 8, 8, 8, 8, 8, 8, 8, 8, 8, 8, 8, 8, 8, 8, 8, 8, 8, 8, 8, 8, 8, 8, 8, 8, 8, 8, 8]⟩ : ByteArray) ((i : Nat) : Int) = ((blk 8 i : Nat) : Int) := by decide +kernel
theorem bits_Len64.tab (i : Nat) (h : i < 256) : bt (⟨#[0, 1, 2, 2, 3, 3, 3, 3, 4, 4, 4, 4, 4, 4, 4, 4, 5, 5, 5, 5, 5, 5, 5, 5, 5, 5, 5, 5, 5, 5, 5, 5, 6, 6, 6, 6, 6, 6, 6, 6, 6, 6, 6, 6, 6, 6, 6, 6, 6, 6, 6, 6, 6, 6, 6, 6, 6, 6, 6, 6, 6, 6, 6, 6, 7, 7, 7, 7, 7, 7, 7, 7, 7, 7, 7, 7, 7, 7, 7, 7, 7, 7, 7, 7, 7, 7, 7, 7, 7, 7, 7, 7, 7, 7, 7, 7, 7, 7, 7, 7, 7, 7, 7, 7, 7, 7, 7, 7, 7, 7, 7, 7, 7, 7, 7, 7, 7, 7, 7, 7, 7, 7, 7, 7, 7, 7, 7, 7, 8, 8, 8, 8, 8, 8, 8, 8, 8, 8, 8, 8, 8, 8, 8, 8, 8, 8, 8, 8, 8, 8, 8, 8, 8, 8, 8, 8, 8, 8, 8, 8, 8, 8, 8, 8, 8, 8, 8, 8, 8, 8, 8, 8, 8, 8, 8, 8, 8, 8, 8, 8, 8, 8, 8, 8, 8, 8, 8, 8, 8, 8, 8, 8, 8, 8, 8, 8, 8, 8, 8, 8, 8, 8, 8, 8, 8, 8, 8, 8, 8, 8, 8, 8, 8, 8, 8, 8, 8, 8, 8, 8, 8, 8, 8, 8, 8, 8, 8, 8, 8, 8, 8, 8, 8, 8, 8, 8, 8, 8, 8, 8, 8, 8, 8, 8, 8, 8, 8, 8, 8, 8, 8, 8, 8, 8, 8, 8]⟩ : ByteArray) (i : Int) = ((blen i : Nat) : Int) := by rw [bits_Len64.tab_rows i h, blen_blk 8 i h]
/-- The steps behind the first test, with a table. -/
def bits_Len64.body (T : ByteArray) (x0 x2 : Int) : Option Int := if x0 ≥ 65536 then (if (x0 / 65536) ≥ 256 then (if 0 ≤ (((x0 / 65536) / 256) % 256) then (if (((x0 / 65536) / 256) % 256) < 256 then (some (wrap64 ((wrap64 ((wrap64 (x2 + 16)) + 8)) + (wrap64 (bt T (((x0 / 65536) / 256) % 256)))))) else (none)) else (none)) else (if 0 ≤ ((x0 / 65536) % 256) then (if ((x0 / 65536) % 256) < 256 then (some (wrap64 ((wrap64 (x2 + 16)) + (wrap64 (bt T ((x0 / 65536) % 256)))))) else (none)) else (none))) else (if x0 ≥ 256 then (if 0 ≤ ((x0 / 256) % 256) then (if ((x0 / 256) % 256) < 256 then (some (wrap64 ((wrap64 (x2 + 8)) + (wrap64 (bt T ((x0 / 256) % 256)))))) else (none)) else (none)) else (if 0 ≤ ((x0) % 256) then (if ((x0) % 256) < 256 then (some (wrap64 (x2 + (wrap64 (bt T ((x0) % 256)))))) else (none)) else (none)))
theorem bits_Len64.steps (T : ByteArray) (tab : ∀ i : Nat, i < 256 → bt T (i : Int) = ((blen i : Nat) : Int)) (n : Nat) (x : Nat) (hn : n ≤ 32) (hx : x < 4294967296) : bits_Len64.body T (x : Int) (n : Int) = some (((n + blen x : Nat) : Int)) := by
  have tb : ∀ (y : Nat), y < 256 → ((y : Int) % 256) = ((y : Nat) : Int) := fun y h => by omega
  have bl : ∀ (y : Nat), y < 256 → blen y ≤ 8 := fun y h => blen_le h
  unfold bits_Len64.body
  by_cases e1 : x ≥ 65536
  · rw [if_pos (by omega)]
    by_cases e2 : x / 65536 ≥ 256
    · have hb := blen_shift 24 x (by rw [show (2 : Nat) ^ 24 = 16777216 from rfl]; omega)
      rw [show (2 : Nat) ^ 24 = 16777216 from rfl] at hb
      have hl := bl (x / 16777216) (by omega)
      have he : ((x : Int) / 65536) / 256 % 256 = ((x / 16777216 : Nat) : Int) := by omega
      rw [if_pos (by omega), if_pos (by omega), if_pos (by omega), he, tab _ (by omega), wrap_id (x := (n : Int) + 16) (by omega) (by omega), wrap_id (x := (n : Int) + 16 + 8) (by omega) (by omega), wrap_id (x := ((blen (x / 16777216) : Nat) : Int)) (by omega) (by omega), wrap_id (by omega) (by omega), hb]
      congr 1
      omega
    · have hb := blen_shift 16 x (by rw [show (2 : Nat) ^ 16 = 65536 from rfl]; omega)
      rw [show (2 : Nat) ^ 16 = 65536 from rfl] at hb
      have hl := bl (x / 65536) (by omega)
      have he : ((x : Int) / 65536) % 256 = ((x / 65536 : Nat) : Int) := by omega
      rw [if_neg (by omega), if_pos (by omega), if_pos (by omega), he, tab _ (by omega), wrap_id (x := (n : Int) + 16) (by omega) (by omega), wrap_id (x := ((blen (x / 65536) : Nat) : Int)) (by omega) (by omega), wrap_id (by omega) (by omega), hb]
      congr 1
      omega
  · rw [if_neg (by omega)]
    by_cases e2 : x ≥ 256
    · have hb := blen_shift 8 x (by rw [show (2 : Nat) ^ 8 = 256 from rfl]; omega)
      rw [show (2 : Nat) ^ 8 = 256 from rfl] at hb
      have hl := bl (x / 256) (by omega)
      have he : ((x : Int) / 256) % 256 = ((x / 256 : Nat) : Int) := by omega
      rw [if_pos (by omega), if_pos (by omega), if_pos (by omega), he, tab _ (by omega), wrap_id (x := (n : Int) + 8) (by omega) (by omega), wrap_id (x := ((blen (x / 256) : Nat) : Int)) (by omega) (by omega), wrap_id (by omega) (by omega), hb]
      congr 1
      omega
    · have hl := bl x (by omega)
      have he : (x : Int) % 256 = (x : Int) := by omega
      rw [if_neg (by omega), if_pos (by omega), if_pos (by omega), he, tab _ (by omega), wrap_id (x := ((blen x : Nat) : Int)) (by omega) (by omega), wrap_id (by omega) (by omega)]
      congr 1
theorem bits_Len64.tail (k n : Nat) (x : Nat) (hn : n ≤ 32) (hx : x < 4294967296) : bits_Len64.j0 (k + 1) (x : Int) (n : Int) = some (((n + blen x : Nat) : Int)) :=
  bits_Len64.steps (⟨#[0, 1, 2, 2, 3, 3, 3, 3, 4, 4, 4, 4, 4, 4, 4, 4, 5, 5, 5, 5, 5, 5, 5, 5, 5, 5, 5, 5, 5, 5, 5, 5, 6, 6, 6, 6, 6, 6, 6, 6, 6, 6, 6, 6, 6, 6, 6, 6, 6, 6, 6, 6, 6, 6, 6, 6, 6, 6, 6, 6, 6, 6, 6, 6, 7, 7, 7, 7, 7, 7, 7, 7, 7, 7, 7, 7, 7, 7, 7, 7, 7, 7, 7, 7, 7, 7, 7, 7, 7, 7, 7, 7, 7, 7, 7, 7, 7, 7, 7, 7, 7, 7, 7, 7, 7, 7, 7, 7, 7, 7, 7, 7, 7, 7, 7, 7, 7, 7, 7, 7, 7, 7, 7, 7, 7, 7, 7, 7, 8, 8, 8, 8, 8, 8, 8, 8, 8, 8, 8, 8, 8, 8, 8, 8, 8, 8, 8, 8, 8, 8, 8, 8, 8, 8, 8, 8, 8, 8, 8, 8, 8, 8, 8, 8, 8, 8, 8, 8, 8, 8, 8, 8, 8, 8, 8, 8, 8, 8, 8, 8, 8, 8, 8, 8, 8, 8, 8, 8, 8, 8, 8, 8, 8, 8, 8, 8, 8, 8, 8, 8, 8, 8, 8, 8, 8, 8, 8, 8, 8, 8, 8, 8, 8, 8, 8, 8, 8, 8, 8, 8, 8, 8, 8, 8, 8, 8, 8, 8, 8, 8, 8, 8, 8, 8, 8, 8, 8, 8, 8, 8, 8, 8, 8, 8, 8, 8, 8, 8, 8, 8, 8, 8, 8, 8, 8, 8]⟩ : ByteArray) bits_Len64.tab n x hn hx
theorem bits_Len64.eq (k : Nat) (x : Nat) (hx : x < 2 ^ 64) : bits_Len64.f (k + 1) (x : Int) = some ((blen x : Nat) : Int) := by
  unfold bits_Len64.f
  by_cases e : x ≥ 4294967296
  · have hb := blen_shift 32 x (by rw [show (2 : Nat) ^ 32 = 4294967296 from rfl]; omega)
    rw [show (2 : Nat) ^ 32 = 4294967296 from rfl] at hb
    have := bits_Len64.tail k 32 (x / 4294967296) (by omega) (by omega)
    rw [if_pos (by omega), show (x : Int) / 4294967296 = ((x / 4294967296 : Nat) : Int) by omega]
    refine this.trans ?_
    rw [hb, Nat.add_comm]
  · have := bits_Len64.tail k 0 x (by omega) (by omega)
    rw [if_neg (by omega)]
    refine this.trans ?_
    rw [Nat.zero_add]

/-! bits_Len -/
theorem bits_Len.eq (k : Nat) (x : Nat) (hx : x < 2 ^ 64) : bits_Len.f (k + 1) (x : Int) = some ((blen x : Nat) : Int) := by
  unfold bits_Len.f
  rw [bits_Len64.eq k x hx]
  rfl

/-! impl_in -/
theorem impl_in.eq (x a b : Int) : impl_in.f x a b = some (decide (a ≤ x) && decide (x ≤ b)) := by
  unfold impl_in.f
  by_cases h : a ≤ x
  · rw [if_pos h]; simp [h]
  · rw [if_neg h]; simp [h]

/-! impl_PathNullity -/
theorem impl_PathNullity.eq (a : Int) (own : Bool) : impl_PathNullity.f a own = some (pathR a own) := by
  unfold impl_PathNullity.f pathR pathNul
  rw [impl_in.eq, Option.bind_some]
  by_cases h : 1 ≤ a ∧ a ≤ 1000000
  · have e0 : (decide (1 ≤ a) && decide (a ≤ 1000000)) = true := by simp [h]
    rw [e0, if_pos rfl, if_pos rfl]
    obtain ⟨n, rfl⟩ : ∃ n : Nat, a = n := ⟨a.toNat, by omega⟩
    have e3 : Int.tmod (n : Int) 3 = ((n % 3 : Nat) : Int) := tmod_nat n 3
    have e2 : Int.tmod (n : Int) 2 = ((n % 2 : Nat) : Int) := tmod_nat n 2
    rw [Int.toNat_natCast]
    cases own
    · rw [if_neg (show ¬ (false = true) by decide), if_neg (show ¬ (false = true) by decide), e2]
      by_cases e : n % 2 = 1
      · rw [e]; rfl
      · rw [show n % 2 = 0 by omega]; rfl
    · rw [if_pos rfl, if_pos rfl, e3]
      by_cases e : n % 3 = 2
      · rw [e]; rfl
      · rw [show n % 3 / 2 = 0 by omega, if_neg (by omega)]; rfl
  · have e : (decide (1 ≤ a) && decide (a ≤ 1000000)) = false := by
      rw [Bool.eq_false_iff]
      intro h2
      simp only [Bool.and_eq_true, decide_eq_true_eq] at h2
      exact h h2
    rw [e]
    rfl

/-! spec_l1In -/
theorem spec_l1In.eq (x a b : Int) : spec_l1In.f x a b = some (decide (a ≤ x) && decide (x ≤ b)) := by
  unfold spec_l1In.f
  by_cases h : a ≤ x
  · rw [if_pos (by omega)]; simp [h]
  · rw [if_neg (by omega)]; simp [h]

/-! spec_PathNullity -/
theorem spec_PathNullity.eq (a : Int) (own : Bool) : spec_PathNullity.f a own = some (pathR a own) := by
  unfold spec_PathNullity.f pathR pathNul
  rw [spec_l1In.eq, Option.bind_some]
  by_cases h : 1 ≤ a ∧ a ≤ 1000000
  · have e0 : (decide (1 ≤ a) && decide (a ≤ 1000000)) = true := by simp [h]
    rw [e0, if_pos rfl, if_pos rfl]
    obtain ⟨n, rfl⟩ : ∃ n : Nat, a = n := ⟨a.toNat, by omega⟩
    have e3 : Int.tmod (n : Int) 3 = ((n % 3 : Nat) : Int) := tmod_nat n 3
    have e2 : Int.tmod (n : Int) 2 = ((n % 2 : Nat) : Int) := tmod_nat n 2
    rw [Int.toNat_natCast]
    cases own
    · rw [if_neg (by decide), if_neg (by decide), e2]
    · rw [if_pos rfl, if_pos rfl, e3]
      have e : Int.tdiv ((n % 3 : Nat) : Int) 2 = ((n % 3 / 2 : Nat) : Int) := rfl
      rw [e, wrap_id (by omega) (by omega)]
  · have e : (decide (1 ≤ a) && decide (a ≤ 1000000)) = false := by
      rw [Bool.eq_false_iff]
      intro h2
      simp only [Bool.and_eq_true, decide_eq_true_eq] at h2
      exact h h2
    rw [e]
    rfl

/-! impl_CircleNullity -/
theorem impl_CircleNullity.ev (a : Int) (own : Bool) : Ev (fun k => impl_CircleNullity.f k a own) (circleR a own) := by
  refine ⟨2, fun k hk => ?_⟩
  obtain ⟨m, rfl⟩ : ∃ m, k = m + 2 := ⟨k - 2, by omega⟩
  show impl_CircleNullity.f (m + 2) a own = _
  unfold impl_CircleNullity.f circleR circleNul
  rw [impl_in.eq, Option.bind_some]
  by_cases h : 3 ≤ a ∧ a ≤ 1000000
  · have e0 : (decide (3 ≤ a) && decide (a ≤ 1000000)) = true := by simp [h]
    rw [e0, if_pos rfl, if_pos rfl]
    obtain ⟨n, rfl⟩ : ∃ n : Nat, a = n := ⟨a.toNat, by omega⟩
    have e3 : Int.tmod (n : Int) 3 = ((n % 3 : Nat) : Int) := tmod_nat n 3
    have e2 : Int.tmod (n : Int) 2 = ((n % 2 : Nat) : Int) := tmod_nat n 2
    rw [Int.toNat_natCast]
    cases own
    · rw [if_neg (by decide), if_neg (by decide)]
      simp only [impl_CircleNullity.j0, impl_CircleNullity.j1, Bool.false_eq_true, if_false]
      rw [e2]
      by_cases e : n % 2 = 0
      · rw [e]; rfl
      · rw [show n % 2 = 1 by omega]; rfl
    · rw [if_pos rfl, if_pos rfl, e3]
      simp only [impl_CircleNullity.j0, impl_CircleNullity.j1, if_true]
      by_cases e : n % 3 = 0
      · rw [e]; rfl
      · have e4 : (((n % 3 : Nat) : Int) == 0) = false := by rw [beq_eq_false_iff_ne]; omega
        rw [e4, if_neg e]
        rfl
  · have e : (decide (3 ≤ a) && decide (a ≤ 1000000)) = false := by
      rw [Bool.eq_false_iff]
      intro h2
      simp only [Bool.and_eq_true, decide_eq_true_eq] at h2
      exact h h2
    rw [e]
    rfl

/-! spec_CircleNullity -/
theorem spec_CircleNullity.eq (a : Int) (own : Bool) : spec_CircleNullity.f a own = some (circleR a own) := by
  unfold spec_CircleNullity.f circleR circleNul
  rw [spec_l1In.eq, Option.bind_some]
  by_cases h : 3 ≤ a ∧ a ≤ 1000000
  · have e0 : (decide (3 ≤ a) && decide (a ≤ 1000000)) = true := by simp [h]
    rw [e0, if_pos rfl, if_pos rfl]
    obtain ⟨n, rfl⟩ : ∃ n : Nat, a = n := ⟨a.toNat, by omega⟩
    have e3 : Int.tmod (n : Int) 3 = ((n % 3 : Nat) : Int) := tmod_nat n 3
    have e2 : Int.tmod (n : Int) 2 = ((n % 2 : Nat) : Int) := tmod_nat n 2
    rw [Int.toNat_natCast]
    cases own
    · rw [if_neg (by decide), if_neg (by decide), e2, wrap_id (by omega) (by omega), show (2 : Int) - ((n % 2 : Nat) : Int) = ((2 - n % 2 : Nat) : Int) by omega]
    · rw [if_pos rfl, if_pos rfl, e3]
      by_cases e : n % 3 = 0
      · rw [e]; rfl
      · rw [if_neg e, if_neg (by omega)]; rfl
  · have e : (decide (3 ≤ a) && decide (a ≤ 1000000)) = false := by
      rw [Bool.eq_false_iff]
      intro h2
      simp only [Bool.and_eq_true, decide_eq_true_eq] at h2
      exact h h2
    rw [e]
    rfl

/-! impl_Graph_join -/
theorem impl_Graph_join.eq (l : List Nat) (own : Bool) (n : Nat) (hn : n ≤ 16) (hl : l.length = n) (hb : ∀ x ∈ l, x < 2 ^ n) (i j : Nat) (hi : i < n) (hj : j < n) : impl_Graph_join.f (ints l) own (i : Int) (j : Int) = some (ints (joinL l i j)) := by
  have hp : (2 : Nat) ^ n ≤ 2 ^ 16 := Nat.pow_le_pow_right (by decide) hn
  have hpi : (2 : Nat) ^ i < 2 ^ n := Nat.pow_lt_pow_right (by decide) hi
  have hpj : (2 : Nat) ^ j < 2 ^ n := Nat.pow_lt_pow_right (by decide) hj
  have g1 := getD_lt hb i
  have h1 := set_lt hb i _ (Nat.or_lt_two_pow g1 hpj)
  have g2 := getD_lt h1 j
  have s1 : shl .i64 1 (j : Int) = ((2 ^ j : Nat) : Int) := by rw [shl_one (by omega) (by omega), Int.toNat_natCast]
  have s2 : shl .i64 1 (i : Int) = ((2 ^ i : Nat) : Int) := by rw [shl_one (by omega) (by omega), Int.toNat_natCast]
  unfold impl_Graph_join.f
  simp only [Int.toNat_natCast, s1, s2]
  rw [if_pos (by omega), if_pos (by rw [ints_length]; omega), if_pos (by omega), ints_getD l i (by omega), or_nat _ _ (by omega) (by omega), ints_set, Option.bind_some, if_pos (by rw [ints_length]; omega), ints_getD _ j (by simp; omega), or_nat _ _ (by omega) (by omega), ints_set]
  rfl

/-! impl_isCount -/
theorem impl_isCount.eq (x : Int) : impl_isCount.f x = some (decide (1 ≤ x) && decide (x ≤ 16)) := by unfold impl_isCount.f; rw [impl_in.eq]; rfl

/-! impl_PathGraph -/
theorem impl_PathGraph.loop (n : Nat) (own : Bool) (hn : n ≤ 16) : ∀ (d i : Nat) (l : List Nat), i + d = n - 1 → 1 ≤ n → l.length = n → (∀ x ∈ l, x < 2 ^ n) → Ev (fun k => impl_PathGraph.l0 k ((n : Int) - 1) (i : Int) (ints l) own) (ints (pathGo d i l), own, true)
  | 0, i, l, hd, h1, hl, hb => by
    refine now fun k => ?_
    simp only [impl_PathGraph.l0]
    rw [if_neg (by omega)]
    rfl
  | d + 1, i, l, hd, h1, hl, hb => by
    refine Ev.step (f := fun k => impl_PathGraph.l0 k ((n : Int) - 1) ((i + 1 : Nat) : Int) (ints (joinL l i (i + 1))) own) (fun k => ?_) (impl_PathGraph.loop n own hn d (i + 1) _ (by omega) h1 (by rw [joinL_length]; exact hl) (joinL_lt hb i (i + 1) (by omega) (by omega)))
    simp only [impl_PathGraph.l0]
    rw [if_pos (by omega), wrap_succ i (by omega), impl_Graph_join.eq l own n hn hl hb i (i + 1) (by omega) (by omega), Option.bind_some]
theorem impl_PathGraph.ev (n : Nat) (own : Bool) (h1 : 1 ≤ n) (hn : n ≤ 16) : Ev (fun k => impl_PathGraph.f k (n : Int) own) (ints (pathL n), own, true) := by
  have h := impl_PathGraph.loop n own hn (n - 1) 0 (List.replicate n 0) (by omega) h1 (by simp) (zeros_lt n n)
  refine Ev.congr (f := fun k => impl_PathGraph.l0 k ((n : Int) - 1) ((0 : Nat) : Int) (ints (List.replicate n 0)) own) (fun k => ?_) h
  unfold impl_PathGraph.f
  have e1 : impl_isCount.f (n : Int) = some true := by rw [impl_isCount.eq, decide_eq_true (by omega), decide_eq_true (by omega)]; rfl
  rw [e1, Option.bind_some, if_pos rfl, if_pos (by omega), if_pos (by rw [Int.toNat_natCast]; omega), Int.toNat_natCast, wrap_id (by omega) (by omega)]
  unfold ints
  rw [List.map_replicate]
  rfl

/-! impl_CircleGraph -/
theorem impl_CircleGraph.yes (n : Nat) (own : Bool) (h1 : 3 ≤ n) (hn : n ≤ 16) : Ev (fun k => impl_CircleGraph.f k (n : Int) own) (ints (circleL n), own, true) := by
  obtain ⟨K, hK⟩ := impl_PathGraph.ev n own (by omega) hn
  refine ⟨K, fun k hk => ?_⟩
  have c1 : impl_PathGraph.f k (n : Int) own = _ := hK k hk
  have e1 : impl_in.f (n : Int) 3 16 = some true := by rw [impl_in.eq, decide_eq_true (by omega), decide_eq_true (by omega)]; rfl
  show impl_CircleGraph.f k (n : Int) own = _
  unfold impl_CircleGraph.f
  rw [e1, Option.bind_some, if_pos rfl, c1, Option.bind_some, wrap_id (by omega) (by omega), show (n : Int) - 1 = ((n - 1 : Nat) : Int) by omega]
  have h2 := impl_Graph_join.eq (pathL n) own n hn (pathL_length n) (pathL_lt (by omega)) 0 (n - 1) (by omega) (by omega)
  show (impl_Graph_join.f (ints (pathL n)) own ((0 : Nat) : Int) ((n - 1 : Nat) : Int)).bind _ = _
  rw [h2, Option.bind_some]
  rfl
theorem impl_CircleGraph.no (a : Int) (own : Bool) (h : (decide (3 ≤ a) && decide (a ≤ 16)) = false) (k : Nat) : impl_CircleGraph.f k a own = some ([], false, false) := by
  unfold impl_CircleGraph.f
  rw [impl_in.eq, h, Option.bind_some, if_neg (by decide)]

/-! impl_whole -/
theorem impl_whole.eq (n : Int) (h0 : 0 ≤ n) (h1 : n ≤ 62) : impl_whole.f n = some (2 ^ n.toNat - 1) := by unfold impl_whole.f; rw [if_pos h0, whole_eq h0 h1]

/-! impl_has -/
theorem impl_has.eq (x i : Int) (hx : 0 ≤ x) (hx1 : x < 2 ^ 63) (hi : 0 ≤ i) : impl_has.f x i = some (bit x i) := by unfold impl_has.f; rw [if_pos hi, has_bit hx hx1 hi]

/-! impl_isGraph -/
theorem impl_isGraph.inner (l : List Int) (own : Bool) (hn : l.length ≤ 16) (i : Nat) (hi : i < l.length) (hbi : 0 ≤ l[i] ∧ l[i] < 2 ^ 63) (hb : ∀ j, (h : j < i) → 0 ≤ l[j] ∧ l[j] < 2 ^ 63) (r : Bool) (hr : Ev (fun k => impl_isGraph.l0 k (l.length : Int) l (l.length : Int) ((i + 1 : Nat) : Int) l own) r) (d : Nat) :
    ∀ j : Nat, i - j = d → j ≤ i → Ev (fun k => impl_isGraph.l1 k (l.length : Int) (i : Int) l[i] l (l.length : Int) (i : Int) (i : Int) (j : Int) l own) (((List.range' j (i - j)).all fun j => bit (l.getD i 0) (j : Int) == bit (l.getD j 0) (i : Int)) && r) := by
  induction d with
  | zero =>
    intro j hd hj
    refine Ev.step (f := fun k => impl_isGraph.l0 k (l.length : Int) l (l.length : Int) ((i + 1 : Nat) : Int) l own) (fun k => ?_) (by rw [hd]; simpa using hr)
    simp only [impl_isGraph.l1]
    rw [if_neg (by omega), wrap_succ i (by omega)]
  | succ d ih =>
    intro j hd hj
    have hlt : j < i := by omega
    have hbj := hb j hlt
    rw [hd, List.range'_succ, List.all_cons, Bool.and_assoc]
    have ih' := ih (j + 1) (by omega) (by omega)
    rw [show i - (j + 1) = d by omega] at ih'
    have h1 := impl_has.eq l[i] (j : Int) hbi.1 hbi.2 (by omega)
    have h2 := impl_has.eq l[j] (i : Int) hbj.1 hbj.2 (by omega)
    rw [getD_get l i hi, getD_get l j (by omega)]
    rw [getD_get l i hi] at ih'
    have step : ∀ k, impl_isGraph.l1 (k + 1) (l.length : Int) (i : Int) l[i] l (l.length : Int) (i : Int) (i : Int) (j : Int) l own = if (bit l[i] (j : Int) == bit l[j] (i : Int)) = true then impl_isGraph.l1 k (l.length : Int) (i : Int) l[i] l (l.length : Int) (i : Int) (i : Int) ((j + 1 : Nat) : Int) l own else some false := by
      intro k
      simp only [impl_isGraph.l1]
      rw [if_pos (by omega), h1, Option.bind_some, if_pos (by omega), if_pos (by omega), rd_get l j (by omega), h2, Option.bind_some, wrap_succ j (by omega)]
      cases bit l[i] (j : Int) <;> cases bit l[j] (i : Int) <;> rfl
    cases e : (bit l[i] (j : Int) == bit l[j] (i : Int))
    · rw [Bool.false_and]
      exact now fun k => by rw [step k, e]; rfl
    · rw [Bool.true_and]
      exact Ev.step (fun k => by rw [step k, e]; rfl) ih'
theorem impl_isGraph.outer (l : List Int) (own : Bool) (hn : l.length ≤ 16) (d : Nat) :
    ∀ i : Nat, l.length - i = d → i ≤ l.length → (∀ j, (h : j < i) → (hj : j < l.length) → 0 ≤ l[j] ∧ l[j] < 2 ^ l.length) → Ev (fun k => impl_isGraph.l0 k (l.length : Int) l (l.length : Int) (i : Int) l own) ((List.range' i (l.length - i)).all (okRow l)) := by
  induction d with
  | zero =>
    intro i hd hi _
    refine now fun k => ?_
    simp only [impl_isGraph.l0]
    rw [if_neg (by omega), hd]
    rfl
  | succ d ih =>
    intro i hd hi hb
    have hlt : i < l.length := by omega
    have h16 := pow16 hn
    rw [hd, List.range'_succ, List.all_cons]
    have hr : okRow l i = (inSet l.length l[i] && (!(bit l[i] (i : Int)) && (List.range' 0 i).all fun j => bit (l.getD i 0) (j : Int) == bit (l.getD j 0) (i : Int))) := by
      unfold okRow
      rw [getD_get l i hlt]
    have hin : impl_in.f l[i] 0 (2 ^ (l.length : Int).toNat - 1) = some (inSet l.length l[i]) := by
      rw [impl_in.eq, Int.toNat_natCast]
      unfold inSet
      congr 2
      rw [Bool.eq_iff_iff]
      simp only [decide_eq_true_eq]
      omega
    rw [hr]
    cases e1 : inSet l.length l[i]
    · rw [Bool.false_and, Bool.false_and]
      refine ⟨2, fun k hk => ?_⟩
      obtain ⟨m, rfl⟩ : ∃ m, k = m + 2 := ⟨k - 2, by omega⟩
      show impl_isGraph.l0 (m + 2) (l.length : Int) l (l.length : Int) (i : Int) l own = _
      simp only [impl_isGraph.l0]
      rw [if_pos (by omega), if_pos (by omega), if_pos (by omega), rd_get l i hlt, impl_whole.eq _ (by omega) (by omega), Option.bind_some, hin, Option.bind_some, e1, if_neg (by decide)]
      simp only [impl_isGraph.j1, if_true]
    · have hbi : 0 ≤ l[i] ∧ l[i] < 2 ^ l.length := by simpa [inSet] using e1
      have hbi' : 0 ≤ l[i] ∧ l[i] < 2 ^ 63 := by omega
      rw [Bool.true_and]
      have head : ∀ k, impl_isGraph.l0 (k + 2) (l.length : Int) l (l.length : Int) (i : Int) l own = if bit l[i] (i : Int) = true then some false else impl_isGraph.l1 k (l.length : Int) (i : Int) l[i] l (l.length : Int) (i : Int) (i : Int) ((0 : Nat) : Int) l own := by
        intro k
        simp only [impl_isGraph.l0]
        rw [if_pos (by omega), if_pos (by omega), if_pos (by omega), rd_get l i hlt, impl_whole.eq _ (by omega) (by omega), Option.bind_some, hin, Option.bind_some, e1, if_pos rfl, impl_has.eq l[i] (i : Int) hbi'.1 hbi'.2 (by omega), Option.bind_some]
        simp only [impl_isGraph.j1]
        rfl
      cases e2 : bit l[i] (i : Int)
      · rw [Bool.not_false, Bool.true_and]
        have ih' := ih (i + 1) (by omega) (by omega) (fun j h hj => by
          rcases Nat.lt_succ_iff_lt_or_eq.1 h with h | h
          · exact hb j h hj
          · subst h; exact hbi)
        rw [show l.length - (i + 1) = d by omega] at ih'
        obtain ⟨K, hK⟩ := impl_isGraph.inner l own hn i hlt hbi' (fun j h => by have := hb j h (by omega); omega) _ ih' i 0 (by omega) (by omega)
        rw [Nat.sub_zero] at hK
        refine ⟨K + 2, fun k hk => ?_⟩
        obtain ⟨m, rfl⟩ : ∃ m, k = m + 2 := ⟨k - 2, by omega⟩
        show impl_isGraph.l0 (m + 2) (l.length : Int) l (l.length : Int) (i : Int) l own = _
        rw [head m, e2, if_neg (by decide)]
        exact hK m (by omega)
      · rw [Bool.not_true, Bool.false_and, Bool.false_and]
        refine ⟨2, fun k hk => ?_⟩
        obtain ⟨m, rfl⟩ : ∃ m, k = m + 2 := ⟨k - 2, by omega⟩
        show impl_isGraph.l0 (m + 2) (l.length : Int) l (l.length : Int) (i : Int) l own = _
        rw [head m, e2, if_pos rfl]
theorem impl_isGraph.ev (l : List Int) (own : Bool) : Ev (fun k => impl_isGraph.f k l own) (good l) := by
  rw [good_rows]
  by_cases hn : 1 ≤ l.length ∧ l.length ≤ 16
  · have e1 : impl_isCount.f (l.length : Int) = some true := by rw [impl_isCount.eq, decide_eq_true (by omega), decide_eq_true (by omega)]; rfl
    rw [show (decide (1 ≤ l.length ∧ l.length ≤ 16)) = true from decide_eq_true hn, Bool.true_and]
    refine Ev.congr (f := fun k => impl_isGraph.l0 k (l.length : Int) l (l.length : Int) ((0 : Nat) : Int) l own) (fun k => ?_) (by simpa using impl_isGraph.outer l own hn.2 l.length 0 (by omega) (by omega) (fun j h => absurd h (by omega)))
    unfold impl_isGraph.f
    rw [e1, Option.bind_some, if_pos rfl]
    rfl
  · have e1 : impl_isCount.f (l.length : Int) = some false := by
      rw [impl_isCount.eq]
      congr 1
      rw [Bool.and_eq_false_iff, decide_eq_false_iff_not, decide_eq_false_iff_not]
      omega
    rw [show (decide (1 ≤ l.length ∧ l.length ≤ 16)) = false from decide_eq_false hn, Bool.false_and]
    refine always fun k => ?_
    unfold impl_isGraph.f
    rw [e1, Option.bind_some, if_neg (by decide)]

/-! impl_Graph_toggles -/
theorem impl_Graph_toggles.eq (l : List Int) (own : Bool) (hG : GoodG l) (i : Nat) (hi : i < l.length) : impl_Graph_toggles.f l own (i : Int) = some (togg l own i) := by
  have h16 := hG.top
  have hx := hG.sets (rd l (i : Int)) (rd_mem l _ (by omega) (by omega))
  have hp := pow16 hG.top
  unfold impl_Graph_toggles.f togg
  cases own
  · rw [if_neg (by decide), if_pos (by omega), if_pos (by omega), if_neg (by decide)]
  · have h2 : (2 : Nat) ^ i < 2 ^ 63 := Nat.pow_lt_pow_right (by decide) (by omega)
    rw [if_pos rfl, if_pos (by omega), if_pos (by omega), if_pos rfl, shl_one (by omega) (by omega), Int.toNat_natCast, or_eq hx.1 (by omega) (Int.natCast_nonneg _) (by exact_mod_cast h2)]
    rfl

/-! impl_top -/
theorem impl_top.eq (k : Nat) (x : Nat) (hx : x < 2 ^ 63) : impl_top.f (k + 1) (x : Int) = some (pdeg x) := by
  have e : IntKind.u64.wrap (x : Int) = (x : Int) := by
    show (x : Int) % _ = _
    exact Int.emod_eq_of_lt (by omega) (by show (x : Int) < 18446744073709551616; omega)
  have hb : blen x ≤ 63 := blen_le hx
  unfold impl_top.f
  rw [e, bits_Len.eq k x (by omega), Option.bind_some, wrap_id (by omega) (by omega)]
  rfl

/-! impl_reduced -/
theorem impl_reduced.step_eq (k : Nat) (s b : Nat) (hs : s < 2 ^ 62) (hb : b < 2 ^ 62) (h0 : b ≠ 0) : impl_reduced.step (k + 1) (s : Int) (b : Int) = some (redOne s b : Int) := by
  have h1 := blen_ne h0
  unfold impl_reduced.step redOne
  rw [impl_top.eq k b (by omega), Option.bind_some, impl_has.eq (s : Int) (pdeg b) (by omega) (by omega) (by unfold pdeg; omega), Option.bind_some]
  have e1 : bit (s : Int) (pdeg b) = s.testBit (blen b - 1) := by
    unfold bit pdeg
    rw [show ((blen b : Int) - 1).toNat = blen b - 1 by omega]
    rfl
  rw [e1]
  split
  · rw [xor_nat s b (by omega) (by omega)]
  · rfl
theorem impl_reduced.go_eq (k : Nat) : ∀ (l : List Nat) (s : Nat), s < 2 ^ 62 → (∀ b ∈ l, b < 2 ^ 62 ∧ b ≠ 0) → impl_reduced.go (k + 1) (ints l) (s : Int) = some ((l.foldl redOne s : Nat) : Int)
  | [], s, _, _ => rfl
  | b :: l, s, hs, h => by
    have hb := h b List.mem_cons_self
    show impl_reduced.go (k + 1) ((b : Int) :: ints l) (s : Int) = _
    unfold impl_reduced.go
    rw [impl_reduced.step_eq k s b hs hb.1 hb.2, Option.bind_some, impl_reduced.go_eq k l (redOne s b) (redOne_lt hs hb.1) (fun x hx => h x (List.mem_cons_of_mem _ hx))]
    rfl
theorem impl_reduced.eq (k : Nat) (l : List Nat) (s : Nat) (hs : s < 2 ^ 62) (h : ∀ b ∈ l, b < 2 ^ 62 ∧ b ≠ 0) : impl_reduced.f (k + 1) (ints l) (s : Int) = some (red l s : Int) := by
  unfold impl_reduced.f
  have e1 : (ints l).reverse = ints l.reverse := by unfold ints; rw [List.map_reverse]
  rw [e1, impl_reduced.go_eq k l.reverse s hs (fun b hb => h b (by simpa using hb)), List.foldl_reverse]
  rfl

/-! impl_extended -/
theorem impl_extended.tp_eq (k b : Nat) (hb : b < 2 ^ 62) : impl_extended.tp (k + 1) (b : Int) = pdeg b ∧ impl_extended.okB (k + 1) (b : Int) = true := by
  have h1 : blen b ≤ 62 := blen_le hb
  unfold impl_extended.tp impl_extended.okB
  rw [impl_top.eq k b (by omega)]
  refine ⟨rfl, ?_⟩
  simp only [Bool.and_eq_true, decide_eq_true_eq]
  unfold pdeg
  omega
theorem impl_extended.go_eq (k : Nat) (t : Nat) (ht : t < 2 ^ 62) (h0 : t ≠ 0) : ∀ l : List Nat, (∀ b ∈ l, b < 2 ^ 62) → impl_extended.go (k + 1) (t : Int) (ints l) = some (ints (l.map (putOne t)))
  | [], _ => rfl
  | b :: l, h => by
    have hb := h b List.mem_cons_self
    have h1 := blen_ne h0
    show impl_extended.go (k + 1) (t : Int) ((b : Int) :: ints l) = _
    unfold impl_extended.go
    rw [impl_top.eq k t (by omega), Option.bind_some, impl_has.eq (b : Int) (pdeg t) (by omega) (by omega) (by unfold pdeg; omega), Option.bind_some, impl_extended.go_eq k t ht h0 l (fun x hx => h x (List.mem_cons_of_mem _ hx)), Option.bind_some]
    have e1 : bit (b : Int) (pdeg t) = b.testBit (blen t - 1) := by
      unfold bit pdeg
      rw [show ((blen t : Int) - 1).toNat = blen t - 1 by omega]
      rfl
    rw [e1, xor_nat b t (by omega) (by omega), List.map_cons]
    unfold putOne
    show some _ = some (_ :: _)
    congr 2
    split <;> rfl
theorem impl_extended.eq (k : Nat) (l : List Nat) (s : Nat) (hs : s < 2 ^ 62) (hl : ∀ b ∈ l, b < 2 ^ 62) (hB : Basis l) (hn : l.length ≤ 1048576) : impl_extended.f (k + 1) (ints l) (s : Int) = some (ints (put l s)) := by
  have hr := red_lt l s hl hs
  have hc := red_clean l s hB
  unfold impl_extended.f put
  rw [impl_reduced.eq k l s hs (fun b hb => ⟨hl b hb, hB.pos b hb⟩), Option.bind_some]
  by_cases hz : red l s = 0
  · rw [if_pos (by omega), if_pos hz]
  · rw [if_neg (by omega), if_neg hz]
    generalize red l s = t at hr hc hz ⊢
    rw [impl_extended.go_eq k t hr hz l hl, Option.bind_some]
    have hp := putTop_perm hB hz hc
    have hT := putTop_basis hB hz hc
    have hlo := putTop_lt hl hr
    have ea : ints (l.map (putOne t)) ++ [(t : Int)] = ints (l.map (putOne t) ++ [t]) := by rw [ints_append]; rfl
    rw [ea]
    have hmem : ∀ x ∈ ints (l.map (putOne t) ++ [t]), ∃ b : Nat, x = (b : Int) ∧ b ∈ putTop l t := fun x hx => by
      unfold ints at hx
      obtain ⟨b, hb, rfl⟩ := List.mem_map.1 hx
      exact ⟨b, rfl, hp.mem_iff.1 hb⟩
    have hfit : impl_extended.fit (k + 1) (ints (l.map (putOne t) ++ [t])) = true := by
      unfold impl_extended.fit
      simp only [Bool.and_eq_true, List.all_eq_true, decide_eq_true_eq]
      refine ⟨⟨fun x hx => ?_, fun x hx y hy => ?_⟩, ?_⟩
      · obtain ⟨b, rfl, hb⟩ := hmem x hx
        exact (impl_extended.tp_eq k b (hlo b hb)).2
      · obtain ⟨b, rfl, hb⟩ := hmem x hx
        obtain ⟨c, rfl, hc2⟩ := hmem y hy
        rw [(impl_extended.tp_eq k b (hlo b hb)).1, (impl_extended.tp_eq k c (hlo c hc2)).1]
        simp only [Bool.or_eq_true, bne_iff_ne, beq_iff_eq]
        by_cases e : b = c
        · exact .inr (by rw [e])
        · refine .inl fun e2 => e ?_
          have e3 : blen b = blen c := by unfold pdeg at e2; omega
          have key : ∀ (r : List Nat), r.Pairwise (fun a b => blen a < blen b) → b ∈ r → c ∈ r → b = c := by
            intro r
            induction r with
            | nil => intro _ hx; simp at hx
            | cons d r ih =>
              intro hpw h1 h2
              obtain ⟨p1, p2⟩ := List.pairwise_cons.1 hpw
              rcases List.mem_cons.1 h1 with e5 | h1
              · rcases List.mem_cons.1 h2 with e6 | h2
                · rw [e5, e6]
                · have := p1 c h2; rw [← e5] at this; omega
              · rcases List.mem_cons.1 h2 with e6 | h2
                · have := p1 b h1; rw [← e6] at this; omega
                · exact ih p2 h1 h2
          exact key _ hT.up hb hc2
      · rw [ints_length, List.length_append, List.length_map, List.length_singleton]
        omega
    rw [if_pos hfit]
    congr 1
    have hs := List.pairwise_mergeSort (le := fun x y : Int => !decide (impl_extended.tp (k + 1) y < impl_extended.tp (k + 1) x)) (fun a b c h1 h2 => by simp at h1 h2 ⊢; omega) (fun a b => by simp; omega) (ints (l.map (putOne t) ++ [t]))
    refine List.Perm.eq_of_pairwise (le := fun x y : Int => impl_extended.tp (k + 1) x ≤ impl_extended.tp (k + 1) y) (fun a b ha hb h1 h2 => ?_) (hs.imp fun h => by simpa using h) ?_ ((List.mergeSort_perm _ _).trans (hp.map _))
    · obtain ⟨x, rfl, hx⟩ := hmem a ((List.mergeSort_perm _ _).mem_iff.1 ha)
      have hfa := impl_extended.fit_apart hfit
      have hb2 : b ∈ ints (l.map (putOne t) ++ [t]) := (hp.map _).mem_iff.2 hb
      exact hfa _ ((List.mergeSort_perm _ _).mem_iff.1 ha) b hb2 (Int.le_antisymm h1 h2)
    · unfold ints
      rw [List.pairwise_map]
      refine hT.up.imp_of_mem (fun {a b} ha hb h => ?_)
      rw [(impl_extended.tp_eq k a (hlo a ha)).1, (impl_extended.tp_eq k b (hlo b hb)).1]
      unfold pdeg
      omega

/-! impl_isSide -/
theorem impl_isSide.eq (a : Int) : impl_isSide.f a 1 = some (isSide a) := by
  unfold impl_isSide.f
  rw [impl_in.eq]
  rfl

/-! impl_fibonacci -/
theorem impl_fibonacci.loop (n : Nat) (hn : n ≤ 60) : ∀ (d i : Nat), i + d = n → Ev (fun k => impl_fibonacci.l0 k ((fibp i : Nat) : Int) ((fibp (i + 1) : Nat) : Int) (n : Int) (i : Int)) ((fibp n : Nat) : Int)
  | 0, i, h => by
    refine now fun k => ?_
    simp only [impl_fibonacci.l0]
    rw [if_neg (by omega), show i = n by omega]
  | d + 1, i, h => by
    have ih := impl_fibonacci.loop n hn d (i + 1) (by omega)
    have p1 : (2 : Nat) ^ (i + 1) ≤ 2 ^ 61 := Nat.pow_le_pow_right (by decide) (by omega)
    have p0 : (2 : Nat) ^ i ≤ 2 ^ 61 := Nat.pow_le_pow_right (by decide) (by omega)
    rw [show (2 : Nat) ^ 61 = 2305843009213693952 from rfl] at p0 p1
    have f0 := fibp_lt i
    have f1 := fibp_lt (i + 1)
    refine Ev.step (f := fun k => impl_fibonacci.l0 k ((fibp (i + 1) : Nat) : Int) ((fibp (i + 1 + 1) : Nat) : Int) (n : Int) ((i + 1 : Nat) : Int)) (fun k => ?_) ih
    simp only [impl_fibonacci.l0]
    rw [if_pos (by omega), wrap_succ i (by omega), wrap_id (by omega) (by omega), show ((fibp (i + 1) : Nat) : Int) * 2 = ((fibp (i + 1) * 2 : Nat) : Int) by omega, xor_nat _ _ (by omega) (by omega)]
    rfl
theorem impl_fibonacci.ev (n : Nat) (h : n ≤ 50) : Ev (fun k => impl_fibonacci.f k (n : Int)) ((fibp n : Nat) : Int) := impl_fibonacci.loop n (by omega) n 0 (by omega)

/-! impl_degree -/
theorem impl_degree.eq (k : Nat) (x : Nat) (hx : x < 2 ^ 63) : impl_degree.f (k + 1) (x : Int) = some (pdeg x) := by
  unfold impl_degree.f
  rw [impl_top.eq k x hx]
  rfl

/-! impl_shift -/
theorem impl_shift.loop (p : Nat) (hp : p < 2 ^ 62) : ∀ (k o d : Nat), o < 2 ^ d → d + k ≤ 60 → Ev (fun n => impl_shift.l0 n (p : Int) (o : Int) ((k : Int) - 1)) ((pshiftm p k o : Nat) : Int)
  | 0, o, d, ho, hd => by
    refine now fun n => ?_
    simp only [impl_shift.l0]
    rw [if_neg (by omega)]
    rfl
  | k + 1, o, d, ho, hd => by
    have hs := shiftstep_lt ho (p.testBit k)
    have ih := impl_shift.loop p hp k _ (d + 1) hs (by omega)
    have p0 : (2 : Nat) ^ d ≤ 2 ^ 60 := Nat.pow_le_pow_right (by decide) (by omega)
    rw [show (2 : Nat) ^ 60 = 1152921504606846976 from rfl] at p0
    have hh := impl_has.eq (p : Int) (k : Int) (by omega) (by omega) (by omega)
    rw [show bit (p : Int) (k : Int) = p.testBit k from rfl] at hh
    have hx : o ^^^ (o * 2) < 2 ^ 63 := Nat.xor_lt_two_pow (by omega) (by omega)
    refine Ev.step (f := fun n => impl_shift.l0 n (p : Int) (((o ^^^ (o * 2)) ^^^ (if p.testBit k = true then 1 else 0) : Nat) : Int) ((k : Int) - 1)) (fun n => ?_) ih
    simp only [impl_shift.l0]
    rw [if_pos (by omega), show ((k + 1 : Nat) : Int) - 1 = (k : Int) by omega, hh, Option.bind_some, wrap_id (by omega) (by omega), wrap_id (by omega) (by omega), show (o : Int) * 2 = ((o * 2 : Nat) : Int) by omega, xor_nat _ _ (by omega) (by omega)]
    cases e : p.testBit k
    · rw [if_neg (by decide), if_neg (by decide), Nat.xor_zero]
    · rw [if_pos rfl, if_pos rfl, show (1 : Int) = ((1 : Nat) : Int) from rfl, xor_nat _ _ hx (by decide)]
theorem impl_shift.ev (p : Nat) (hp : p < 2 ^ 60) : Ev (fun k => impl_shift.f k (p : Int)) ((pshift p : Nat) : Int) := by
  have hb : blen p ≤ 60 := blen_le hp
  obtain ⟨K, hK⟩ := impl_shift.loop p (by omega) (blen p) 0 0 (by decide) (by omega)
  refine ⟨K + 1, fun k hk => ?_⟩
  obtain ⟨m, rfl⟩ : ∃ m, k = m + 1 := ⟨k - 1, by omega⟩
  have h1 : impl_shift.l0 (m + 1) (p : Int) 0 ((blen p : Int) - 1) = _ := hK (m + 1) (by omega)
  show impl_shift.f (m + 1) (p : Int) = _
  unfold impl_shift.f
  rw [impl_degree.eq m p (by omega), Option.bind_some]
  exact h1

/-! impl_divide -/
theorem impl_divide.loop (q dq : Nat) (hq : blen q = dq + 1) (hq63 : q < 2 ^ 62) : ∀ (k o p : Nat), p < 2 ^ (k + dq) → k + dq ≤ 62 → o < 2 ^ 62 → Ev (fun n => impl_divide.l0 n (p : Int) (q : Int) (o : Int)) (((pdivm q dq k o p).1 : Int), ((pdivm q dq k o p).2 : Int))
  | 0, o, p, hp, hk, ho => by
    have hp2 : p < 2 ^ 62 := Nat.lt_of_lt_of_le hp (Nat.pow_le_pow_right (by decide) hk)
    have hb := blen_le hp
    refine ⟨2, fun n hn => ?_⟩
    obtain ⟨m, rfl⟩ : ∃ m, n = m + 1 + 1 := ⟨n - 2, by omega⟩
    show impl_divide.l0 (m + 1 + 1) (p : Int) (q : Int) (o : Int) = _
    rw [show impl_divide.l0 (m + 1 + 1) (p : Int) (q : Int) (o : Int) = (impl_degree.f (m + 1) (p : Int)).bind _ from rfl, impl_degree.eq m p (by omega), Option.bind_some, impl_degree.eq m q (by omega), Option.bind_some, if_neg (by unfold pdeg; omega)]
    rfl
  | k + 1, o, p, hp, hk, ho => by
    rw [show k + 1 + dq = k + dq + 1 by omega] at hp
    cases e : p.testBit (k + dq)
    · have := impl_divide.loop q dq hq hq63 k o p (low_top hp e) (by omega) ho
      unfold pdivm
      rw [e, if_neg (by decide)]
      exact this
    · have hp2 : p < 2 ^ 62 := Nat.lt_of_lt_of_le hp (Nat.pow_le_pow_right (by decide) (by omega))
      have hb : blen p = k + dq + 1 := by
        apply Nat.le_antisymm (blen_le hp)
        apply Nat.lt_of_not_le
        intro h
        have := Nat.testBit_lt_two_pow (lt_of_blen h)
        rw [e] at this
        exact absurd this (by decide)
      have hs : q * 2 ^ k < 2 ^ 62 := Nat.lt_of_lt_of_le (shift_lt (k := k) (lt_of_blen (k := dq + 1) (by omega))) (Nat.pow_le_pow_right (by decide) (by omega))
      have h2 : 2 ^ k < 2 ^ 62 := Nat.pow_lt_pow_right (by decide) (by omega)
      obtain ⟨K, hK⟩ := impl_divide.loop q dq hq hq63 k (o ||| 2 ^ k) (p ^^^ (q * 2 ^ k)) (drop_top hp hq e) (by omega) (Nat.or_lt_two_pow ho h2)
      refine ⟨K + 2, fun n hn => ?_⟩
      obtain ⟨m, rfl⟩ : ∃ m, n = m + 1 + 1 := ⟨n - 2, by omega⟩
      have k2 : impl_divide.l0 (m + 1) ((p ^^^ (q * 2 ^ k) : Nat) : Int) (q : Int) ((o ||| 2 ^ k : Nat) : Int) = _ := hK (m + 1) (by omega)
      have e1 : shl .i64 (q : Int) (k : Int) = ((q * 2 ^ k : Nat) : Int) := by
        have := shl_eq (x := (q : Int)) (i := (k : Int)) (by omega) (by omega) (by omega) (by rw [Int.toNat_natCast, Int.toNat_natCast]; omega)
        rwa [Int.toNat_natCast, Int.toNat_natCast] at this
      have e2 : shl .i64 1 (k : Int) = ((2 ^ k : Nat) : Int) := by rw [shl_one (by omega) (by omega), Int.toNat_natCast]
      have e3 : wrap64 (pdeg p - pdeg q) = (k : Int) := by
        rw [wrap_id (by unfold pdeg; omega) (by unfold pdeg; omega)]
        unfold pdeg
        omega
      have d1 := impl_degree.eq m p (by omega)
      have d2 := impl_degree.eq m q (by omega)
      show impl_divide.l0 (m + 1 + 1) (p : Int) (q : Int) (o : Int) = _
      rw [show impl_divide.l0 (m + 1 + 1) (p : Int) (q : Int) (o : Int) = (impl_degree.f (m + 1) (p : Int)).bind _ from rfl, d1, Option.bind_some, d2, Option.bind_some, if_pos (by unfold pdeg; omega), Option.bind_some, Option.bind_some, e3, if_pos (by omega), e1, e2, xor_nat _ _ (by omega) (by omega), or_nat _ _ (by omega) (by omega), k2]
      rw [show pdivm q dq (k + 1) o p = if p.testBit (k + dq) = true then pdivm q dq k (o ||| 2 ^ k) (p ^^^ (q * 2 ^ k)) else pdivm q dq k o p from rfl, if_pos e]
theorem impl_divide.ev (p q : Nat) (hq : q ≠ 0) (hp : p < 2 ^ 62) (hq63 : q < 2 ^ 62) : Ev (fun n => impl_divide.f n (p : Int) (q : Int)) (((pdiv p q).1 : Int), ((pdiv p q).2 : Int)) := by
  have b1 := blen_le hp
  have b2 := blen_le hq63
  have b3 := blen_pos hq
  unfold pdiv
  exact impl_divide.loop q (blen q - 1) (by omega) hq63 (blen p + 1 - blen q) 0 p (lt_of_blen (by omega)) (by omega) (by decide)

/-! impl_modulo -/
theorem impl_modulo.ev (p q : Nat) (hq : q ≠ 0) (hp : p < 2 ^ 62) (hq63 : q < 2 ^ 62) : Ev (fun n => impl_modulo.f n (p : Int) (q : Int)) ((pdiv p q).2 : Int) := by
  obtain ⟨K, hK⟩ := impl_divide.ev p q hq hp hq63
  refine ⟨K, fun n hn => ?_⟩
  have h1 : impl_divide.f n (p : Int) (q : Int) = _ := hK n hn
  show impl_modulo.f n (p : Int) (q : Int) = _
  unfold impl_modulo.f
  rw [h1]
  rfl

/-! impl_gcd -/
theorem impl_gcd.loop : ∀ (b p q : Nat), blen q = b → p < 2 ^ 62 → q < 2 ^ 62 → Ev (fun n => impl_gcd.l0 n (p : Int) (q : Int)) ((pgcd p q : Nat) : Int) := by
  intro b
  induction b using Nat.strongRecOn with
  | _ b ih =>
    intro p q hb hp hq
    by_cases e : q = 0
    · subst e
      refine now fun n => ?_
      simp only [impl_gcd.l0]
      rw [if_pos (by omega), pgcd_zero]
    · have hr := pdiv_rest_blen (p := p) e
      have hr2 : (pdiv p q).2 < 2 ^ 62 := Nat.lt_of_lt_of_le (pdiv_rest_lt (p := p) e) (Nat.pow_le_pow_right (by decide) (by have := blen_le hq; omega))
      obtain ⟨K, hK⟩ := ev_and (impl_modulo.ev p q e hp hq) (ih (blen (pdiv p q).2) (by omega) q (pdiv p q).2 rfl hq hr2)
      refine ⟨K + 1, fun n hn => ?_⟩
      obtain ⟨m, rfl⟩ : ∃ m, n = m + 1 := ⟨n - 1, by omega⟩
      obtain ⟨k1, k2⟩ := hK m (by omega)
      simp only [impl_gcd.l0]
      rw [if_neg (by omega), k1, Option.bind_some, pgcd_step e]
      exact k2
theorem impl_gcd.ev (p q : Nat) (hp : p < 2 ^ 62) (hq : q < 2 ^ 62) : Ev (fun n => impl_gcd.f n (p : Int) (q : Int)) ((pgcd p q : Nat) : Int) := impl_gcd.loop (blen q) p q rfl hp hq

/-! impl_gridNullity -/
theorem impl_gridNullity.ev (a b : Nat) (own : Bool) (ha : a ≤ 40) (hb : b ≤ 40) : Ev (fun k => impl_gridNullity.f k (a : Int) (b : Int) own) (gridNul a b own) := by
  have f1 := fibp_lt41 ha
  have f2 := fibp_lt41 hb
  have f3 := pshift_lt41 f1
  unfold gridNul
  obtain ⟨K1, hK1⟩ := ev_and (impl_fibonacci.ev (a + 1) (by omega)) (impl_fibonacci.ev (b + 1) (by omega))
  obtain ⟨K2, hK2⟩ := impl_shift.ev (fibp (a + 1)) (by omega)
  have main : ∀ q : Nat, q < 2 ^ 41 → ∃ K, ∀ k, K ≤ k → impl_gcd.f k ((fibp (b + 1) : Nat) : Int) (q : Int) = some ((pgcd (fibp (b + 1)) q : Nat) : Int) ∧ impl_degree.f k ((pgcd (fibp (b + 1)) q : Nat) : Int) = some (pdeg (pgcd (fibp (b + 1)) q)) := by
    intro q hq
    have hg := pgcd_lt (blen q) (fibp (b + 1)) q 41 rfl f2 hq
    obtain ⟨K4, hK4⟩ := impl_gcd.ev (fibp (b + 1)) q (by omega) (by omega)
    refine ⟨K4 + 1, fun k hk => ⟨hK4 k (by omega), ?_⟩⟩
    obtain ⟨m, rfl⟩ : ∃ m, k = m + 1 := ⟨k - 1, by omega⟩
    exact impl_degree.eq m (pgcd (fibp (b + 1)) q) (by omega)
  cases own
  · obtain ⟨K3, hK3⟩ := main (fibp (a + 1)) f1
    refine ⟨K1 + K2 + K3, fun k hk => ?_⟩
    obtain ⟨h1, h2⟩ := hK1 k (by omega)
    obtain ⟨h3, h4⟩ := hK3 k (by omega)
    show impl_gridNullity.f k (a : Int) (b : Int) false = _
    unfold impl_gridNullity.f
    rw [wrap_succ a (by omega), wrap_succ b (by omega), h1, Option.bind_some, if_neg (by decide), if_neg (by decide), h2, Option.bind_some, h3, Option.bind_some, h4, Option.bind_some]
  · obtain ⟨K3, hK3⟩ := main (pshift (fibp (a + 1))) f3
    refine ⟨K1 + K2 + K3, fun k hk => ?_⟩
    obtain ⟨h1, h2⟩ := hK1 k (by omega)
    obtain ⟨h3, h4⟩ := hK3 k (by omega)
    have h5 : impl_shift.f k ((fibp (a + 1) : Nat) : Int) = _ := hK2 k (by omega)
    show impl_gridNullity.f k (a : Int) (b : Int) true = _
    unfold impl_gridNullity.f
    rw [wrap_succ a (by omega), wrap_succ b (by omega), h1, Option.bind_some, if_pos rfl, if_pos rfl, h5, Option.bind_some, h2, Option.bind_some, h3, Option.bind_some, h4, Option.bind_some]

/-! impl_GridNullity -/
theorem impl_GridNullity.ev (a b : Int) (own : Bool) : Ev (fun k => impl_GridNullity.f k a b own) (gridNullity a b own) := by
  unfold gridNullity
  cases e1 : isSide a
  · refine always fun k => ?_
    unfold impl_GridNullity.f
    rw [impl_isSide.eq, Option.bind_some, e1]
    rfl
  · cases e2 : isSide b
    · refine always fun k => ?_
      unfold impl_GridNullity.f
      rw [impl_isSide.eq, Option.bind_some, e1, if_pos rfl, impl_isSide.eq, Option.bind_some, e2]
      rfl
    · have h1 : 1 ≤ a ∧ a ≤ 40 := by simpa [isSide] using e1
      have h2 : 1 ≤ b ∧ b ≤ 40 := by simpa [isSide] using e2
      obtain ⟨K, hK⟩ := impl_gridNullity.ev a.toNat b.toNat own (by omega) (by omega)
      refine ⟨K, fun k hk => ?_⟩
      have h3 : impl_gridNullity.f k (a.toNat : Int) (b.toNat : Int) own = _ := hK k hk
      rw [Int.toNat_of_nonneg (by omega), Int.toNat_of_nonneg (by omega)] at h3
      show impl_GridNullity.f k a b own = _
      unfold impl_GridNullity.f
      rw [impl_isSide.eq, Option.bind_some, e1, if_pos rfl, impl_isSide.eq, Option.bind_some, e2, if_pos rfl, h3, Option.bind_some]
      rfl
end Go.Proofs.Ytlioggjncgfioaa.Pure
