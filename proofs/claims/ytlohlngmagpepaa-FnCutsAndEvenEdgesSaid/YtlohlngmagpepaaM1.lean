/- Plain laws on sets told as whole numbers: bits, shifts, sums. No program in sight. -/
import Derived.Test.YtlohlngmagpepaaVWords
namespace Go.Proofs.YtlohlngmagpepaaM
open Go.RowKit Go.Proofs.YtlohlngmagpepaaW.PrintWords Go.Proofs.YtlohlngmagpepaaW.PrintLast Go.Proofs.YtlohlngmagpepaaW.PrintMore
set_option linter.unusedVariables false
set_option linter.unusedSimpArgs false
def bit (x i : Int) : Bool := x.toNat.testBit i.toNat
theorem wrap_id {x : Int} (h0 : -9223372036854775808 ≤ x) (h1 : x ≤ 9223372036854775807) : wrap64 x = x := by unfold wrap64; omega
theorem wraps_i64 (n : Int) (h₀ : 0 ≤ n) (h₁ : n < 2 ^ 63) : IntKind.i64.wrap n = n := by rw [IntKind.wrap_i64]; omega
theorem mod64 (a : Nat) (h : a < 2 ^ 63) : a % 2 ^ 64 = a := Nat.mod_eq_of_lt (Nat.lt_trans h (by decide))
theorem xor_nat (a b : Nat) (ha : a < 2 ^ 63) (hb : b < 2 ^ 63) : Go.bits .xor .i64 (a : Int) (b : Int) = ((a ^^^ b : Nat) : Int) := by
  have ha' : a % 2 ^ IntKind.i64.bits = a := mod64 a ha
  have hb' : b % 2 ^ IntKind.i64.bits = b := mod64 b hb
  simp only [Go.bits, BitVec.ofInt_natCast, BitVec.toNat_xor, BitVec.toNat_ofNat, ha', hb']
  exact wraps_i64 _ (Int.natCast_nonneg _) (by exact_mod_cast Nat.xor_lt_two_pow ha hb)
theorem and_nat (a b : Nat) (ha : a < 2 ^ 63) (hb : b < 2 ^ 63) : Go.bits .and .i64 (a : Int) (b : Int) = ((a &&& b : Nat) : Int) := (bits_nat .i64 63 (by decide) wraps_i64 a b ha hb).1
theorem or_nat (a b : Nat) (ha : a < 2 ^ 63) (hb : b < 2 ^ 63) : Go.bits .or .i64 (a : Int) (b : Int) = ((a ||| b : Nat) : Int) := (bits_nat .i64 63 (by decide) wraps_i64 a b ha hb).2
theorem shr_nat (a i : Nat) (ha : a < 2 ^ 63) : shr .i64 (a : Int) (i : Int) = ((a >>> i : Nat) : Int) := by
  unfold shr
  simp only [Int.toNat_natCast, IntKind.bits]
  by_cases h : i ≤ 64
  · rw [Nat.min_eq_left h, Nat.shiftRight_eq_div_pow]; norm_cast
  · rw [Nat.min_eq_right (by omega), Nat.shiftRight_eq_div_pow]
    have h1 : a / 2 ^ i = 0 := Nat.div_eq_of_lt (Nat.lt_of_lt_of_le ha (Nat.pow_le_pow_right (by decide) (by omega)))
    have h2 : a / 2 ^ 64 = 0 := Nat.div_eq_of_lt (Nat.lt_trans ha (by decide))
    rw [h1]; norm_cast
theorem shr_eq {x i : Int} (hx : 0 ≤ x) (hx1 : x < 2 ^ 63) (hi : 0 ≤ i) : shr .i64 x i = ((x.toNat >>> i.toNat : Nat) : Int) := by
  have := shr_nat x.toNat i.toNat (by omega)
  rwa [Int.toNat_of_nonneg hx, Int.toNat_of_nonneg hi] at this
theorem shl_nat (a i : Nat) (h : a * 2 ^ i < 2 ^ 63) (hi : i ≤ 64) : shl .i64 (a : Int) (i : Int) = ((a <<< i : Nat) : Int) := by
  unfold shl
  simp only [Int.toNat_natCast, IntKind.bits]
  rw [Nat.min_eq_left hi, Nat.shiftLeft_eq]
  have e : (a : Int) * 2 ^ i = ((a * 2 ^ i : Nat) : Int) := by norm_cast
  rw [e]
  exact wraps_i64 _ (Int.natCast_nonneg _) (by exact_mod_cast h)
theorem shl_one {i : Int} (h0 : 0 ≤ i) (h1 : i ≤ 62) : shl .i64 1 i = ((2 ^ i.toNat : Nat) : Int) := by
  have hp : 2 ^ i.toNat < 2 ^ 63 := Nat.pow_lt_pow_right (by decide) (by omega)
  have := shl_nat 1 i.toNat (by omega) (by omega)
  rw [Int.toNat_of_nonneg h0, Nat.shiftLeft_eq, Nat.one_mul] at this
  exact this
theorem has_bit {x i : Int} (hx : 0 ≤ x) (hx1 : x < 2 ^ 63) (hi : 0 ≤ i) : ((Go.bits .and .i64 (shr .i64 x i) 1) == 1) = bit x i := by
  have hlt : x.toNat >>> i.toNat < 2 ^ 63 := by rw [Nat.shiftRight_eq_div_pow]; exact Nat.lt_of_le_of_lt (Nat.div_le_self _ _) (by omega)
  rw [shr_eq hx hx1 hi]
  have := and_nat (x.toNat >>> i.toNat) 1 hlt (by decide)
  rw [show ((1 : Nat) : Int) = 1 from rfl] at this
  rw [this]
  unfold bit
  rw [Nat.testBit_eq_decide_div_mod_eq, Nat.and_one_is_mod, Nat.shiftRight_eq_div_pow, Bool.eq_iff_iff]
  simp only [beq_iff_eq, decide_eq_true_eq]
  omega
theorem in_bit {x i : Int} (hx : 0 ≤ x) (hx1 : x < 2 ^ 63) (hi : 0 ≤ i) : ((Int.tmod (shr .i64 x i) 2) == 1) = bit x i := by
  rw [shr_eq hx hx1 hi, Int.tmod_eq_emod_of_nonneg (Int.natCast_nonneg _)]
  unfold bit
  rw [Nat.testBit_eq_decide_div_mod_eq, Nat.shiftRight_eq_div_pow, Bool.eq_iff_iff]
  simp only [beq_iff_eq, decide_eq_true_eq]
  omega
theorem whole_eq {n : Int} (h0 : 0 ≤ n) (h1 : n ≤ 62) : wrap64 (shl .i64 1 n - 1) = 2 ^ n.toNat - 1 := by
  rw [shl_one h0 h1, wrap_id]
  · norm_cast
  · have := Nat.two_pow_pos n.toNat
    omega
  · have hp : 2 ^ n.toNat < 2 ^ 63 := Nat.pow_lt_pow_right (by decide) (by omega)
    omega
theorem now {α : Type} {g : Nat → Option α} {r : α} (h : ∀ k, g (k + 1) = some r) : Ev g r := ⟨1, fun k hk => by obtain ⟨m, rfl⟩ : ∃ m, k = m + 1 := ⟨k - 1, by omega⟩; exact h m⟩
theorem always {α : Type} {g : Nat → Option α} {r : α} (h : ∀ k, g k = some r) : Ev g r := ⟨0, fun k _ => h k⟩
theorem rd_get (l : List Int) (i : Nat) (h : i < l.length) : rd l (i : Int) = l[i] := by
  unfold rd; simp [List.getD_eq_getElem?_getD, List.getElem?_eq_getElem h]
theorem rd_mem (l : List Int) (i : Int) (h0 : 0 ≤ i) (h : i < l.length) : rd l i ∈ l := by
  obtain ⟨n, rfl⟩ : ∃ n : Nat, i = n := ⟨i.toNat, by omega⟩
  rw [rd_get l n (by omega)]; exact List.getElem_mem _
theorem wrap_succ (i : Nat) (h : i < 4611686018427387904) : wrap64 ((i : Int) + 1) = ((i + 1 : Nat) : Int) := by rw [wrap_id (by omega) (by omega)]; omega
theorem drop_cons {α : Type} (l : List α) (i : Nat) (h : i < l.length) : l.drop i = l[i] :: l.drop (i + 1) := List.drop_eq_getElem_cons h
theorem ev_get {α : Type} {g : Nat → Option α} {a : α} (h : Ev g a) : ∃ K, ∀ n, K ≤ n → g n = some a := h
end Go.Proofs.YtlohlngmagpepaaM
