/- Plain laws on how many are in a set. No program in sight. -/
import Derived.Test.YtlohlngmagpepaaM2
namespace Go.Proofs.YtlohlngmagpepaaM
open Go.RowKit Go.Proofs.YtlohlngmagpepaaW.PrintWords Go.Proofs.YtlohlngmagpepaaW.PrintLast Go.Proofs.YtlohlngmagpepaaW.PrintMore
set_option linter.unusedVariables false
set_option linter.unusedSimpArgs false
def cnt : Nat → Nat → Nat
  | 0, _ => 0
  | k + 1, x => x % 2 + cnt k (x / 2)
def pop (x : Nat) : Nat := if x = 0 then 0 else x % 2 + pop (x / 2)
termination_by x
decreasing_by omega
theorem cnt_zero : ∀ k : Nat, cnt k 0 = 0
  | 0 => rfl
  | k + 1 => by rw [cnt, cnt_zero k]
theorem cnt_le : ∀ (k x : Nat), cnt k x ≤ k
  | 0, _ => Nat.le_refl 0
  | k + 1, x => by
    have := cnt_le k (x / 2)
    rw [cnt]
    omega
theorem pop_cnt : ∀ (k x : Nat), x < 2 ^ k → pop x = cnt k x
  | 0, x, h => by
    have : x = 0 := by omega
    subst this
    rw [pop]
    rfl
  | k + 1, x, h => by
    rw [pop, cnt]
    split
    · next e => subst e; rw [Nat.zero_div, cnt_zero]
    · rw [pop_cnt k (x / 2) (by rw [Nat.pow_succ] at h; omega)]
theorem pop_eq {k x : Nat} (hk : k ≤ 63) (h : x < 2 ^ k) : pop x = cnt k x := pop_cnt k x h
theorem pop_le {k x : Nat} (hk : k ≤ 63) (h : x < 2 ^ k) : pop x ≤ k := by rw [pop_eq hk h]; exact cnt_le k x
def sw1 (a : Nat) : Nat := (((a / 2) &&& 6148914691236517205) + (a &&& 6148914691236517205)) % 18446744073709551616
def sw2 (a : Nat) : Nat := (((a / 4) &&& 3689348814741910323) + (a &&& 3689348814741910323)) % 18446744073709551616
def sw3 (a : Nat) : Nat := (((a / 16 + a) % 18446744073709551616) &&& 1085102592571150095)
def sw4 (a : Nat) : Nat := (a + a / 256) % 18446744073709551616
def sw5 (a : Nat) : Nat := (a + a / 65536) % 18446744073709551616
def sw6 (a : Nat) : Nat := (a + a / 4294967296) % 18446744073709551616
def swar (a : Nat) : Nat := sw6 (sw5 (sw4 (sw3 (sw2 (sw1 a))))) &&& 127
theorem land_split (i j m n : Nat) (hj : j < 256) (hn : n < 256) : (256 * i + j) &&& (256 * m + n) = 256 * (i &&& m) + (j &&& n) := by
  have hjn : j &&& n < 256 := Nat.lt_of_le_of_lt Nat.and_le_left hj
  apply Nat.eq_of_testBit_eq
  intro k
  have e1 := Nat.testBit_two_pow_mul_add i (i := 8) (b := j) hj k
  have e2 := Nat.testBit_two_pow_mul_add m (i := 8) (b := n) hn k
  have e3 := Nat.testBit_two_pow_mul_add (i &&& m) (i := 8) (b := j &&& n) hjn k
  rw [Nat.testBit_and]
  rw [show (2 : Nat) ^ 8 = 256 from rfl] at e1 e2 e3
  rw [e1, e2, e3]
  split <;> simp [Nat.testBit_and]
set_option maxRecDepth 100000 in
theorem sw1_lo : ∀ c, c < 2 → ∀ j, j < 256 → ((128 * c + j / 2) &&& 85) + (j &&& 85) = sw1 j ∧ sw1 j < 256 := by decide +kernel
set_option maxRecDepth 100000 in
theorem sw1_hi : ∀ i, i < 256 → ((i / 2) &&& 24019198012642645) + (i &&& 24019198012642645) = sw1 i := by decide +kernel
set_option maxRecDepth 100000 in
theorem sw2_lo : ∀ c, c < 4 → ∀ j, j < 256 → ((64 * c + j / 4) &&& 51) + (j &&& 51) = sw2 j ∧ sw2 j < 256 := by decide +kernel
set_option maxRecDepth 100000 in
theorem sw2_hi : ∀ i, i < 256 → ((i / 4) &&& 14411518807585587) + (i &&& 14411518807585587) = sw2 i := by decide +kernel
theorem sw1_split (i j : Nat) (hi : i < 256) (hj : j < 256) : sw1 (256 * i + j) = 256 * sw1 i + sw1 j := by
  have h1 := land_split (i / 2) (128 * (i % 2) + j / 2) 24019198012642645 85 (by omega) (by decide)
  have h2 := land_split i j 24019198012642645 85 hj (by decide)
  have h3 := sw1_lo (i % 2) (by omega) j hj
  have h4 := sw1_hi i hi
  have h5 := sw1_lo 0 (by omega) i hi
  rw [show sw1 (256 * i + j) = (((256 * i + j) / 2 &&& (256 * 24019198012642645 + 85)) + ((256 * i + j) &&& (256 * 24019198012642645 + 85))) % 18446744073709551616 from rfl, show (256 * i + j) / 2 = 256 * (i / 2) + (128 * (i % 2) + j / 2) by omega, h1, h2]
  omega
theorem sw2_split (i j : Nat) (hi : i < 256) (hj : j < 256) : sw2 (256 * i + j) = 256 * sw2 i + sw2 j := by
  have h1 := land_split (i / 4) (64 * (i % 4) + j / 4) 14411518807585587 51 (by omega) (by decide)
  have h2 := land_split i j 14411518807585587 51 hj (by decide)
  have h3 := sw2_lo (i % 4) (by omega) j hj
  have h4 := sw2_hi i hi
  have h5 := sw2_lo 0 (by omega) i hi
  rw [show sw2 (256 * i + j) = (((256 * i + j) / 4 &&& (256 * 14411518807585587 + 51)) + ((256 * i + j) &&& (256 * 14411518807585587 + 51))) % 18446744073709551616 from rfl, show (256 * i + j) / 4 = 256 * (i / 4) + (64 * (i % 4) + j / 4) by omega, h1, h2]
  omega
set_option maxRecDepth 100000 in
theorem sw12_byte : ∀ i, i < 256 → sw2 (sw1 i) < 69 ∧ sw2 (sw1 i) % 16 + sw2 (sw1 i) / 16 = cnt 8 i := by decide +kernel
set_option maxRecDepth 100000 in
theorem sw_rest : ∀ i, i < 69 → ∀ j, j < 69 → sw6 (sw5 (sw4 (sw3 (256 * i + j)))) &&& 127 = (i % 16 + i / 16) + (j % 16 + j / 16) ∨ 4 < i % 16 ∨ 4 < j % 16 := by decide +kernel
set_option maxRecDepth 100000 in
theorem sw12_low : ∀ i, i < 256 → sw2 (sw1 i) % 16 ≤ 4 := by decide +kernel
theorem cnt_split : ∀ (k m i j : Nat), j < 2 ^ k → cnt (k + m) (2 ^ k * i + j) = cnt k j + cnt m i
  | 0, m, i, j, h => by
    have : j = 0 := by omega
    subst this
    simp [cnt]
  | k + 1, m, i, j, h => by
    rw [Nat.pow_succ] at h
    rw [show k + 1 + m = (k + m) + 1 by omega, cnt, cnt, Nat.pow_succ, show (2 ^ k * 2 * i + j) % 2 = j % 2 by rw [Nat.mul_comm (2 ^ k) 2, Nat.mul_assoc]; omega, show (2 ^ k * 2 * i + j) / 2 = 2 ^ k * i + j / 2 by rw [Nat.mul_comm (2 ^ k) 2, Nat.mul_assoc]; omega, cnt_split k m i (j / 2) (by omega)]
    omega
theorem swar_eq (n : Nat) (h : n < 65536) : swar n = pop n := by
  have hn : n = 256 * (n / 256) + n % 256 := by omega
  have hi : n / 256 < 256 := by omega
  have hj : n % 256 < 256 := by omega
  have b1 := sw1_lo 0 (by omega) (n / 256) hi
  have b2 := sw1_lo 0 (by omega) (n % 256) hj
  have c1 := sw12_byte (n / 256) hi
  have c2 := sw12_byte (n % 256) hj
  have d1 := sw12_low (n / 256) hi
  have d2 := sw12_low (n % 256) hj
  have r := sw_rest (sw2 (sw1 (n / 256))) c1.1 (sw2 (sw1 (n % 256))) c2.1
  have e : sw2 (sw1 n) = 256 * sw2 (sw1 (n / 256)) + sw2 (sw1 (n % 256)) := by
    have h1 := sw1_split (n / 256) (n % 256) hi hj
    rw [← hn] at h1
    rw [h1, sw2_split _ _ b1.2 b2.2]
  have s := cnt_split 8 8 (n / 256) (n % 256) hj
  rw [show (2 : Nat) ^ 8 = 256 from rfl, ← hn] at s
  rw [pop_eq (k := 16) (by decide) h, show (16 : Nat) = 8 + 8 from rfl, s, swar, e]
  omega
theorem uand (a b : Nat) (ha : a < 2 ^ 64) (hb : b < 2 ^ 64) : Go.bits .and .u64 (a : Int) (b : Int) = ((a &&& b : Nat) : Int) := by
  refine (bits_nat .u64 64 (by decide) (fun n h0 h1 => ?_) a b ha hb).1
  show n % _ = n
  exact Int.emod_eq_of_lt h0 h1
theorem uwrap (a : Nat) : IntKind.u64.wrap (a : Int) = ((a % 18446744073709551616 : Nat) : Int) := by
  show (a : Int) % _ = _
  norm_cast
theorem uwrap_id (a : Nat) (h : a < 18446744073709551616) : IntKind.u64.wrap (a : Int) = (a : Int) := by rw [uwrap, Nat.mod_eq_of_lt h]
def sumFrom (f : Nat → Nat) : Nat → Nat → Nat
  | _, 0 => 0
  | i, d + 1 => f i + sumFrom f (i + 1) d
def one (b : Bool) : Nat := if b = true then 1 else 0
theorem sumFrom_add (f g : Nat → Nat) : ∀ (d i : Nat), sumFrom (fun x => f x + g x) i d = sumFrom f i d + sumFrom g i d
  | 0, i => rfl
  | d + 1, i => by
    simp only [sumFrom]
    rw [sumFrom_add f g d (i + 1)]
    omega
theorem sumFrom_congr (f g : Nat → Nat) : ∀ (d i : Nat), (∀ x, i ≤ x → x < i + d → f x = g x) → sumFrom f i d = sumFrom g i d
  | 0, i, _ => rfl
  | d + 1, i, h => by
    simp only [sumFrom]
    rw [h i (Nat.le_refl i) (by omega), sumFrom_congr f g d (i + 1) (fun x h1 h2 => h x (by omega) (by omega))]
theorem pairs_twice (a : Nat → Nat → Nat) : ∀ (d i : Nat), (∀ x y, i ≤ x → x < i + d → i ≤ y → y < i + d → a x y = a y x) → (∀ x, i ≤ x → x < i + d → a x x = 0) →
    sumFrom (fun x => sumFrom (a x) i d) i d = 2 * sumFrom (fun x => sumFrom (a x) (x + 1) (i + d - x - 1)) i d
  | 0, i, _, _ => rfl
  | d + 1, i, hs, hi => by
    have ih := pairs_twice a d (i + 1) (fun x y h1 h2 h3 h4 => hs x y (by omega) (by omega) (by omega) (by omega)) (fun x h1 h2 => hi x (by omega) (by omega))
    have e1 : sumFrom (fun x => sumFrom (a x) i (d + 1)) (i + 1) d = sumFrom (fun x => a i x) (i + 1) d + sumFrom (fun x => sumFrom (a x) (i + 1) d) (i + 1) d := by
      rw [← sumFrom_add]
      refine sumFrom_congr _ _ d (i + 1) (fun x h1 h2 => ?_)
      simp only [sumFrom]
      rw [hs x i (by omega) (by omega) (by omega) (by omega)]
    have e2 : sumFrom (fun x => sumFrom (a x) (x + 1) (i + (d + 1) - x - 1)) (i + 1) d = sumFrom (fun x => sumFrom (a x) (x + 1) (i + 1 + d - x - 1)) (i + 1) d := by
      refine sumFrom_congr _ _ d (i + 1) (fun x h1 h2 => ?_)
      rw [show i + (d + 1) - x - 1 = i + 1 + d - x - 1 by omega]
    simp only [sumFrom]
    rw [hi i (Nat.le_refl i) (by omega)]
    have e1' := e1
    simp only [sumFrom] at e1'
    rw [e1', ih, e2, show i + (d + 1) - i - 1 = d by omega]
    have e3 : sumFrom (fun x => a i x) (i + 1) d = sumFrom (a i) (i + 1) d := rfl
    rw [e3]
    omega
theorem cnt_from (x : Nat) : ∀ (k i : Nat), cnt k (x >>> i) = sumFrom (fun j => one (x.testBit j)) i k
  | 0, i => rfl
  | k + 1, i => by
    have ih := cnt_from x k (i + 1)
    simp only [cnt, sumFrom]
    rw [← ih, show x >>> i / 2 = x >>> (i + 1) by rw [Nat.shiftRight_succ], Nat.testBit_eq_decide_div_mod_eq, ← Nat.shiftRight_eq_div_pow]
    congr 1
    unfold one
    simp only [decide_eq_true_eq]
    split <;> omega
theorem pop_sum {k x : Nat} (hk : k ≤ 63) (h : x < 2 ^ k) : pop x = sumFrom (fun j => one (x.testBit j)) 0 k := by
  rw [pop_eq hk h, ← cnt_from]
  rfl
def rowEdges (l : List Int) (i : Nat) : Nat → Nat → List (List Int)
  | _, 0 => []
  | j, d + 1 => if bit (rd l (i : Int)) (j : Int) = true then [(i : Int), (j : Int)] :: rowEdges l i (j + 1) d else rowEdges l i (j + 1) d
def edgesFrom (l : List Int) : Nat → Nat → List (List Int)
  | _, 0 => []
  | i, d + 1 => rowEdges l i (i + 1) d ++ edgesFrom l (i + 1) d
def edgesOf (l : List Int) : List (List Int) := edgesFrom l 0 l.length
theorem rowEdges_length (l : List Int) (i : Nat) : ∀ (d j : Nat), (rowEdges l i j d).length ≤ d
  | 0, j => Nat.le_refl 0
  | d + 1, j => by
    have := rowEdges_length l i d (j + 1)
    unfold rowEdges
    split
    · simp; omega
    · omega
theorem rd_getD (l : List Int) (i : Nat) : rd l (i : Int) = l.getD i 0 := by unfold rd; simp
theorem rowEdges_pairs (l : List Int) (i : Nat) : ∀ (d j : Nat), ∀ e ∈ rowEdges l i j d, ∃ y : Nat, e = [(i : Int), (y : Int)] ∧ j ≤ y ∧ y < j + d ∧ bit (rd l (i : Int)) (y : Int) = true
  | 0, j, e, h => by simp [rowEdges] at h
  | d + 1, j, e, h => by
    unfold rowEdges at h
    have ih := rowEdges_pairs l i d (j + 1) e
    split at h
    · next hb =>
      rw [List.mem_cons] at h
      rcases h with rfl | h
      · exact ⟨j, rfl, by omega, by omega, hb⟩
      · obtain ⟨y, h1, h2, h3, h4⟩ := ih h
        exact ⟨y, h1, by omega, by omega, h4⟩
    · obtain ⟨y, h1, h2, h3, h4⟩ := ih h
      exact ⟨y, h1, by omega, by omega, h4⟩
theorem edgesFrom_pairs (l : List Int) : ∀ (d i : Nat), ∀ e ∈ edgesFrom l i d, ∃ x y : Nat, e = [(x : Int), (y : Int)] ∧ i ≤ x ∧ x < y ∧ y < i + d ∧ bit (rd l (x : Int)) (y : Int) = true
  | 0, i, e, h => by simp [edgesFrom] at h
  | d + 1, i, e, h => by
    unfold edgesFrom at h
    rw [List.mem_append] at h
    rcases h with h | h
    · obtain ⟨y, h1, h2, h3, h4⟩ := rowEdges_pairs l i d (i + 1) e h
      exact ⟨i, y, h1, by omega, by omega, by omega, h4⟩
    · obtain ⟨x, y, h1, h2, h3, h4, h5⟩ := edgesFrom_pairs l d (i + 1) e h
      exact ⟨x, y, h1, by omega, by omega, by omega, h5⟩
end Go.Proofs.YtlohlngmagpepaaM
