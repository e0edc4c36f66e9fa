/- What the functions of FnSplitsOfGraphs compute, in plain words. -/
import Derived.Test.YtlohlngmagpepaaGreatPFnSplitsOfGraphsx
import Derived.Test.YtlohlngmagpepaaGreatM1
import Derived.Test.YtlohlngmagpepaaGreatM2
import Derived.Test.YtlohlngmagpepaaGreatM3
import Derived.Test.YtlohlngmagpepaaGreatM4
import Derived.Test.YtlohlngmagpepaaGreatM5
import Derived.Test.YtlohlngmagpepaaGreatM6
import Derived.Test.YtlohlngmagpepaaGreatM7
import Derived.Test.YtlohlngmagpepaaGreatM8
import Derived.Test.YtlohlngmagpepaaGreatM9
import Derived.Test.YtlohlngmagpepaaGreatM10
import Derived.Test.YtlohlngmagpepaaGreatM12
import Derived.Test.YtlohlngmagpepaaGreatM15
import Derived.Test.YtlohlngmagpepaaGreatM17
import Derived.Test.YtlohlngmagpepaaGreatM20
import Derived.Test.YtlohlngmagpepaaGreatM21
import Derived.Test.YtlohlngmagpepaaGreatM22
import Derived.Test.YtlohlngmagpepaaGreatM23
import Derived.Test.YtlohlngmagpepaaGreatM25
import Derived.Test.YtlohlngmagpepaaGreatM26
import Derived.Test.YtlohlngmagpepaaGreatM27
import Derived.Test.YtlohlngmagpepaaGreatM28
import Derived.Test.YtlohlngmagpepaaGreatM29
import Derived.Test.YtlohlngmagpepaaGreatM30
import Derived.Test.YtlohlngmagpepaaGreatM31
import Derived.Test.YtlohlngmagpepaaGreatM34
import Derived.Test.YtlohlngmagpepaaGreatM35
import Derived.Test.YtlohlngmagpepaaGreatM36
import Derived.Test.YtlohlngmagpepaaGreatM37
import Derived.Test.YtlohlngmagpepaaGreatM40
import Derived.Test.YtlohlngmagpepaaGreatM41
namespace Go.Proofs.YtlohlngmagpepaaGreat.Pure
open Go.RowKit Go.Proofs.YtlohlngmagpepaaGreat.PFnSplitsOfGraphs Go.Proofs.YtlohlngmagpepaaGreatW.PrintWords Go.Proofs.YtlohlngmagpepaaGreatW.PrintLast Go.Proofs.YtlohlngmagpepaaGreatW.PrintMore Go.Proofs.YtlohlngmagpepaaGreatM
set_option linter.unusedVariables false
set_option linter.unusedSimpArgs false
/-! bits_OnesCount64 -/
theorem bits_OnesCount64.e1 (a : Nat) (h : a < 2 ^ 64) : IntKind.u64.wrap ((Go.bits .and .u64 ((a : Int) / 2) 6148914691236517205) + (Go.bits .and .u64 (a : Int) 6148914691236517205)) = ((sw1 a : Nat) : Int) := by
  have h1 := uand (a / 2) 6148914691236517205 (by omega) (by decide)
  have h2 := uand a 6148914691236517205 h (by decide)
  rw [show ((a / 2 : Nat) : Int) = (a : Int) / 2 by norm_cast] at h1
  have h1' : Go.bits .and .u64 ((a : Int) / 2) 6148914691236517205 = _ := h1
  have h2' : Go.bits .and .u64 (a : Int) 6148914691236517205 = _ := h2
  rw [h1', h2', ← Int.natCast_add, uwrap]
  rfl
theorem bits_OnesCount64.e2 (a : Nat) (h : a < 2 ^ 64) : IntKind.u64.wrap ((Go.bits .and .u64 ((a : Int) / 4) 3689348814741910323) + (Go.bits .and .u64 (a : Int) 3689348814741910323)) = ((sw2 a : Nat) : Int) := by
  have h1 := uand (a / 4) 3689348814741910323 (by omega) (by decide)
  have h2 := uand a 3689348814741910323 h (by decide)
  rw [show ((a / 4 : Nat) : Int) = (a : Int) / 4 by norm_cast] at h1
  have h1' : Go.bits .and .u64 ((a : Int) / 4) 3689348814741910323 = _ := h1
  have h2' : Go.bits .and .u64 (a : Int) 3689348814741910323 = _ := h2
  rw [h1', h2', ← Int.natCast_add, uwrap]
  rfl
theorem bits_OnesCount64.e3 (a : Nat) : Go.bits .and .u64 (IntKind.u64.wrap (((a : Int) / 16) + (a : Int))) 1085102592571150095 = ((sw3 a : Nat) : Int) := by
  rw [show (a : Int) / 16 + (a : Int) = ((a / 16 + a : Nat) : Int) by omega, uwrap]
  exact uand _ 1085102592571150095 (Nat.mod_lt _ (by decide)) (by decide)
theorem bits_OnesCount64.e4 (a : Nat) : IntKind.u64.wrap ((a : Int) + (a : Int) / 256) = ((sw4 a : Nat) : Int) := by
  rw [show (a : Int) + (a : Int) / 256 = ((a + a / 256 : Nat) : Int) by omega, uwrap]
  rfl
theorem bits_OnesCount64.e5 (a : Nat) : IntKind.u64.wrap ((a : Int) + (a : Int) / 65536) = ((sw5 a : Nat) : Int) := by
  rw [show (a : Int) + (a : Int) / 65536 = ((a + a / 65536 : Nat) : Int) by omega, uwrap]
  rfl
theorem bits_OnesCount64.e6 (a : Nat) : IntKind.u64.wrap ((a : Int) + (a : Int) / 4294967296) = ((sw6 a : Nat) : Int) := by
  rw [show (a : Int) + (a : Int) / 4294967296 = ((a + a / 4294967296 : Nat) : Int) by omega, uwrap]
  rfl
theorem bits_OnesCount64.lt (a : Nat) : sw1 a < 2 ^ 64 := Nat.mod_lt _ (by decide)
theorem bits_OnesCount64.lt2 (a : Nat) : sw2 a < 2 ^ 64 := Nat.mod_lt _ (by decide)
theorem bits_OnesCount64.low (b : Nat) (h : b < 2 ^ 64) : Go.bits .and .i64 (wrap64 (b : Int)) 127 = ((b &&& 127 : Nat) : Int) := by
  have e1 : ∀ c : Int, BitVec.ofInt 64 (wrap64 c) = BitVec.ofInt 64 c := by
    intro c
    apply BitVec.eq_of_toInt_eq
    rw [BitVec.toInt_ofInt, BitVec.toInt_ofInt]
    unfold wrap64
    rw [Int.bmod_def, Int.bmod_def]
    omega
  have hlt : b &&& 127 < 128 := Nat.lt_of_le_of_lt (Nat.and_le_right) (by decide)
  have e2 : Go.bits .and .i64 (wrap64 (b : Int)) 127 = Go.bits .and .i64 (b : Int) 127 := by
    have := e1 (b : Int)
    simp only [Go.bits, IntKind.bits] at this ⊢
    rw [this]
  rw [e2]
  have ha' : b % 2 ^ IntKind.i64.bits = b := Nat.mod_eq_of_lt h
  have hb' : 127 % 2 ^ IntKind.i64.bits = 127 := rfl
  rw [show (127 : Int) = ((127 : Nat) : Int) from rfl]
  simp only [Go.bits, BitVec.ofInt_natCast, BitVec.toNat_and, BitVec.toNat_ofNat, ha', hb']
  exact wraps_i64 _ (Int.natCast_nonneg _) (by omega)
theorem bits_OnesCount64.lt6 (a : Nat) : sw6 a < 2 ^ 64 := Nat.mod_lt _ (by decide)
theorem bits_OnesCount64.eq (a : Nat) (h : a < 65536) : bits_OnesCount64.f (a : Int) = some ((pop a : Nat) : Int) := by
  have hh : a < 2 ^ 64 := Nat.lt_trans h (by decide)
  unfold bits_OnesCount64.f
  rw [bits_OnesCount64.e1 a hh, bits_OnesCount64.e2 _ (bits_OnesCount64.lt a), bits_OnesCount64.e3, bits_OnesCount64.e4, bits_OnesCount64.e5, bits_OnesCount64.e6, bits_OnesCount64.low (sw6 _) (bits_OnesCount64.lt6 _), ← swar_eq a h]
  rfl

/-! bits_OnesCount -/
theorem bits_OnesCount.eq (a : Nat) (h : a < 65536) : bits_OnesCount.f (a : Int) = some ((pop a : Nat) : Int) := by
  unfold bits_OnesCount.f
  rw [bits_OnesCount64.eq a h]
  rfl

/-! bits_Len64 -/
theorem bits_Len64.tab_rows : ∀ i, i < 256 → bt (⟨#[0, 1, 2, 2, 3, 3, 3, 3, 4, 4, 4, 4, 4, 4, 4, 4, 5, 5, 5, 5, 5, 5, 5, 5, 5, 5, 5, 5, 5, 5, 5, 5, 6, 6, 6, 6, 6, 6, 6, 6, 6, 6, 6, 6, 6, 6, 6, 6, 6, 6, 6, 6, 6, 6, 6, 6, 6, 6, 6, 6, 6, 6, 6, 6, 7, 7, 7, 7, 7, 7, 7, 7, 7, 7, 7, 7, 7, 7, 7, 7, 7, 7, 7, 7, 7, 7, 7, 7, 7, 7, 7, 7, 7, 7, 7, 7, 7, 7, 7, 7, 7, 7, 7, 7, 7, 7, 7, 7, 7, 7, 7, 7, 7, 7, 7, 7, 7, 7, 7, 7, 7, 7, 7, 7, 7, 7, 7, 7, 8, 8, 8, 8, 8, 8, 8, 8, 8, 8, 8, 8, 8, 8, 8, 8, 8, 8, 8, 8, 8, 8, 8, 8, 8, 8, 8, 8, 8, 8, 8, 8, 8, 8, 8, 8, 8, 8, 8, 8, 8, 8, 8, 8, 8, 8, 8, 8, 8, 8, 8, 8, 8, 8, 8, 8, 8, 8, 8, 8, 8, 8, 8, 8, 8, 8, 8, 8, 8, 8, 8, 8, 8, 8, 8, 8, 8, 8, 8, 8, 8, 8, 8, 8, 8, 8, 8, 8, 8, 8, 8, 8, 8, 8, 8, 8, 8, 8, 8, 8, 8, 8, 8, 8, 8, 8, 8, 8, 8, 8, 8, 8, 8, 8, 8, 8, 8, 8, 8, 8, 8, 8, 8, 8, 8, 8, 8, 8]⟩ : ByteArray) ((i : Nat) : Int) = ((blk 8 i : Nat) : Int) := by decide +kernel
theorem bits_Len64.tab (i : Nat) (h : i < 256) : bt (⟨#[0, 1, 2, 2, 3, 3, 3, 3, 4, 4, 4, 4, 4, 4, 4, 4, 5, 5, 5, 5, 5, 5, 5, 5, 5, 5, 5, 5, 5, 5, 5, 5, 6, 6, 6, 6, 6, 6, 6, 6, 6, 6, 6, 6, 6, 6, 6, 6, 6, 6, 6, 6, 6, 6, 6, 6, 6, 6, 6, 6, 6, 6, 6, 6, 7, 7, 7, 7, 7, 7, 7, 7, 7, 7, 7, 7, 7, 7, 7, 7, 7, 7, 7, 7, 7, 7, 7, 7, 7, 7, 7, 7, 7, 7, 7, 7, 7, 7, 7, 7, 7, 7, 7, 7, 7, 7, 7, 7, 7, 7, 7, 7, 7, 7, 7, 7, 7, 7, 7, 7, 7, 7, 7, 7, 7, 7, 7, 7, 8, 8, 8, 8, 8, 8, 8, 8, 8, 8, 8, 8, 8, 8, 8, 8, 8, 8, 8, 8, 8, 8, 8, 8, 8, 8, 8, 8, 8, 8, 8, 8, 8, 8, 8, 8, 8, 8, 8, 8, 8, 8, 8, 8, 8, 8, 8, 8, 8, 8, 8, 8, 8, 8, 8, 8, 8, 8, 8, 8, 8, 8, 8, 8, 8, 8, 8, 8, 8, 8, 8, 8, 8, 8, 8, 8, 8, 8, 8, 8, 8, 8, 8, 8, 8, 8, 8, 8, 8, 8, 8, 8, 8, 8, 8, 8, 8, 8, 8, 8, 8, 8, 8, 8, 8, 8, 8, 8, 8, 8, 8, 8, 8, 8, 8, 8, 8, 8, 8, 8, 8, 8, 8, 8, 8, 8, 8, 8]⟩ : ByteArray) (i : Int) = ((blen i : Nat) : Int) := by rw [bits_Len64.tab_rows i h, blen_blk 8 i h]
/-- The steps behind the first test, with a table. -/
def bits_Len64.body (T : ByteArray) (x0 x2 : Int) : Option Int := if x0 ≥ 65536 then (if (x0 / 65536) ≥ 256 then (if 0 ≤ (((x0 / 65536) / 256) % 256) then (if (((x0 / 65536) / 256) % 256) < 256 then (some (wrap64 ((wrap64 ((wrap64 (x2 + 16)) + 8)) + (wrap64 (bt T (((x0 / 65536) / 256) % 256)))))) else (none)) else (none)) else (if 0 ≤ ((x0 / 65536) % 256) then (if ((x0 / 65536) % 256) < 256 then (some (wrap64 ((wrap64 (x2 + 16)) + (wrap64 (bt T ((x0 / 65536) % 256)))))) else (none)) else (none))) else (if x0 ≥ 256 then (if 0 ≤ ((x0 / 256) % 256) then (if ((x0 / 256) % 256) < 256 then (some (wrap64 ((wrap64 (x2 + 8)) + (wrap64 (bt T ((x0 / 256) % 256)))))) else (none)) else (none)) else (if 0 ≤ ((x0) % 256) then (if ((x0) % 256) < 256 then (some (wrap64 (x2 + (wrap64 (bt T ((x0) % 256)))))) else (none)) else (none)))
theorem bits_Len64.steps (T : ByteArray) (tab : ∀ i : Nat, i < 256 → bt T (i : Int) = ((blen i : Nat) : Int)) (n : Nat) (x : Nat) (hn : n ≤ 32) (hx : x < 4294967296) : bits_Len64.body T (x : Int) (n : Int) = some (((n + blen x : Nat) : Int)) := by
  have tb : ∀ (y : Nat), y < 256 → ((y : Int) % 256) = ((y : Nat) : Int) := fun y h => by omega
  have bl : ∀ (y : Nat), y < 256 → blen y ≤ 8 := fun y h => blen_le h
  unfold bits_Len64.body
  by_cases e1 : x ≥ 65536
  · rw [if_pos (by omega)]
    by_cases e2 : x / 65536 ≥ 256
    · have hb := blen_shift 24 x (by rw [show (2 : Nat) ^ 24 = 16777216 from rfl]; omega)
      rw [show (2 : Nat) ^ 24 = 16777216 from rfl] at hb
      have hl := bl (x / 16777216) (by omega)
      have he : ((x : Int) / 65536) / 256 % 256 = ((x / 16777216 : Nat) : Int) := by omega
      rw [if_pos (by omega), if_pos (by omega), if_pos (by omega), he, tab _ (by omega), wrap_id (x := (n : Int) + 16) (by omega) (by omega), wrap_id (x := (n : Int) + 16 + 8) (by omega) (by omega), wrap_id (x := ((blen (x / 16777216) : Nat) : Int)) (by omega) (by omega), wrap_id (by omega) (by omega), hb]
      congr 1
      omega
    · have hb := blen_shift 16 x (by rw [show (2 : Nat) ^ 16 = 65536 from rfl]; omega)
      rw [show (2 : Nat) ^ 16 = 65536 from rfl] at hb
      have hl := bl (x / 65536) (by omega)
      have he : ((x : Int) / 65536) % 256 = ((x / 65536 : Nat) : Int) := by omega
      rw [if_neg (by omega), if_pos (by omega), if_pos (by omega), he, tab _ (by omega), wrap_id (x := (n : Int) + 16) (by omega) (by omega), wrap_id (x := ((blen (x / 65536) : Nat) : Int)) (by omega) (by omega), wrap_id (by omega) (by omega), hb]
      congr 1
      omega
  · rw [if_neg (by omega)]
    by_cases e2 : x ≥ 256
    · have hb := blen_shift 8 x (by rw [show (2 : Nat) ^ 8 = 256 from rfl]; omega)
      rw [show (2 : Nat) ^ 8 = 256 from rfl] at hb
      have hl := bl (x / 256) (by omega)
      have he : ((x : Int) / 256) % 256 = ((x / 256 : Nat) : Int) := by omega
      rw [if_pos (by omega), if_pos (by omega), if_pos (by omega), he, tab _ (by omega), wrap_id (x := (n : Int) + 8) (by omega) (by omega), wrap_id (x := ((blen (x / 256) : Nat) : Int)) (by omega) (by omega), wrap_id (by omega) (by omega), hb]
      congr 1
      omega
    · have hl := bl x (by omega)
      have he : (x : Int) % 256 = (x : Int) := by omega
      rw [if_neg (by omega), if_pos (by omega), if_pos (by omega), he, tab _ (by omega), wrap_id (x := ((blen x : Nat) : Int)) (by omega) (by omega), wrap_id (by omega) (by omega)]
      congr 1
theorem bits_Len64.tail (k n : Nat) (x : Nat) (hn : n ≤ 32) (hx : x < 4294967296) : bits_Len64.j0 (k + 1) (x : Int) (n : Int) = some (((n + blen x : Nat) : Int)) :=
  bits_Len64.steps (⟨#[0, 1, 2, 2, 3, 3, 3, 3, 4, 4, 4, 4, 4, 4, 4, 4, 5, 5, 5, 5, 5, 5, 5, 5, 5, 5, 5, 5, 5, 5, 5, 5, 6, 6, 6, 6, 6, 6, 6, 6, 6, 6, 6, 6, 6, 6, 6, 6, 6, 6, 6, 6, 6, 6, 6, 6, 6, 6, 6, 6, 6, 6, 6, 6, 7, 7, 7, 7, 7, 7, 7, 7, 7, 7, 7, 7, 7, 7, 7, 7, 7, 7, 7, 7, 7, 7, 7, 7, 7, 7, 7, 7, 7, 7, 7, 7, 7, 7, 7, 7, 7, 7, 7, 7, 7, 7, 7, 7, 7, 7, 7, 7, 7, 7, 7, 7, 7, 7, 7, 7, 7, 7, 7, 7, 7, 7, 7, 7, 8, 8, 8, 8, 8, 8, 8, 8, 8, 8, 8, 8, 8, 8, 8, 8, 8, 8, 8, 8, 8, 8, 8, 8, 8, 8, 8, 8, 8, 8, 8, 8, 8, 8, 8, 8, 8, 8, 8, 8, 8, 8, 8, 8, 8, 8, 8, 8, 8, 8, 8, 8, 8, 8, 8, 8, 8, 8, 8, 8, 8, 8, 8, 8, 8, 8, 8, 8, 8, 8, 8, 8, 8, 8, 8, 8, 8, 8, 8, 8, 8, 8, 8, 8, 8, 8, 8, 8, 8, 8, 8, 8, 8, 8, 8, 8, 8, 8, 8, 8, 8, 8, 8, 8, 8, 8, 8, 8, 8, 8, 8, 8, 8, 8, 8, 8, 8, 8, 8, 8, 8, 8, 8, 8, 8, 8, 8, 8]⟩ : ByteArray) bits_Len64.tab n x hn hx
theorem bits_Len64.eq (k : Nat) (x : Nat) (hx : x < 2 ^ 64) : bits_Len64.f (k + 1) (x : Int) = some ((blen x : Nat) : Int) := by
  unfold bits_Len64.f
  by_cases e : x ≥ 4294967296
  · have hb := blen_shift 32 x (by rw [show (2 : Nat) ^ 32 = 4294967296 from rfl]; omega)
    rw [show (2 : Nat) ^ 32 = 4294967296 from rfl] at hb
    have := bits_Len64.tail k 32 (x / 4294967296) (by omega) (by omega)
    rw [if_pos (by omega), show (x : Int) / 4294967296 = ((x / 4294967296 : Nat) : Int) by omega]
    refine this.trans ?_
    rw [hb, Nat.add_comm]
  · have := bits_Len64.tail k 0 x (by omega) (by omega)
    rw [if_neg (by omega)]
    refine this.trans ?_
    rw [Nat.zero_add]

/-! bits_Len -/
theorem bits_Len.eq (k : Nat) (x : Nat) (hx : x < 2 ^ 64) : bits_Len.f (k + 1) (x : Int) = some ((blen x : Nat) : Int) := by
  unfold bits_Len.f
  rw [bits_Len64.eq k x hx]
  rfl

/-! spec_grAdd -/
theorem spec_grAdd.eq (l : List Nat) (own : Bool) (n : Nat) (hn : n ≤ 16) (hl : l.length = n) (hb : ∀ x ∈ l, x < 2 ^ n) (i j : Nat) (hi : i < n) (hj : j < n) : spec_grAdd.f (ints l) own (i : Int) (j : Int) = some (ints (joinL l i j)) := by
  have hp : (2 : Nat) ^ n ≤ 2 ^ 16 := Nat.pow_le_pow_right (by decide) hn
  have hpi : (2 : Nat) ^ i < 2 ^ n := Nat.pow_lt_pow_right (by decide) hi
  have hpj : (2 : Nat) ^ j < 2 ^ n := Nat.pow_lt_pow_right (by decide) hj
  have g1 := getD_lt hb i
  have h1 := set_lt hb i _ (Nat.or_lt_two_pow g1 hpj)
  have g2 := getD_lt h1 j
  have s1 : shl .i64 1 (j : Int) = ((2 ^ j : Nat) : Int) := by rw [shl_one (by omega) (by omega), Int.toNat_natCast]
  have s2 : shl .i64 1 (i : Int) = ((2 ^ i : Nat) : Int) := by rw [shl_one (by omega) (by omega), Int.toNat_natCast]
  unfold spec_grAdd.f
  simp only [Int.toNat_natCast, s1, s2]
  rw [if_pos (by omega), if_pos (by rw [ints_length]; omega), if_pos (by omega), ints_getD l i (by omega), or_nat _ _ (by omega) (by omega), ints_set, Option.bind_some, if_pos (by rw [ints_length]; omega), ints_getD _ j (by simp; omega), or_nat _ _ (by omega) (by omega), ints_set]
  rfl

/-! spec_grPath -/
theorem spec_grPath.loop (n : Nat) (own : Bool) (hn : n ≤ 16) : ∀ (d i : Nat) (l : List Nat), i + d = n - 1 → 1 ≤ n → l.length = n → (∀ x ∈ l, x < 2 ^ n) → Ev (fun k => spec_grPath.l0 k (n : Int) ((i + 1 : Nat) : Int) (ints l) own) (ints (pathGo d i l), own)
  | 0, i, l, hd, h1, hl, hb => by
    refine now fun k => ?_
    simp only [spec_grPath.l0]
    rw [if_neg (by omega)]
    rfl
  | d + 1, i, l, hd, h1, hl, hb => by
    refine Ev.step (f := fun k => spec_grPath.l0 k (n : Int) ((i + 1 + 1 : Nat) : Int) (ints (joinL l i (i + 1))) own) (fun k => ?_) (spec_grPath.loop n own hn d (i + 1) _ (by omega) h1 (by rw [joinL_length]; exact hl) (joinL_lt hb i (i + 1) (by omega) (by omega)))
    simp only [spec_grPath.l0]
    rw [if_pos (by omega), wrap_id (x := ((i + 1 : Nat) : Int) - 1) (by omega) (by omega), show ((i + 1 : Nat) : Int) - 1 = (i : Int) by omega, spec_grAdd.eq l own n hn hl hb i (i + 1) (by omega) (by omega), Option.bind_some, wrap_succ (i + 1) (by omega)]
theorem spec_grPath.ev (n : Nat) (own : Bool) (h1 : 1 ≤ n) (hn : n ≤ 16) : Ev (fun k => spec_grPath.f k (n : Int) own) (ints (pathL n), own) := by
  have h := spec_grPath.loop n own hn (n - 1) 0 (List.replicate n 0) (by omega) h1 (by simp) (zeros_lt n n)
  refine Ev.congr (f := fun k => spec_grPath.l0 k (n : Int) ((0 + 1 : Nat) : Int) (ints (List.replicate n 0)) own) (fun k => ?_) h
  unfold spec_grPath.f
  rw [if_pos (by omega), if_pos (by rw [Int.toNat_natCast]; omega), Int.toNat_natCast]
  unfold ints
  rw [List.map_replicate]
  rfl

/-! spec_grCircle -/
theorem spec_grCircle.ev (n : Nat) (own : Bool) (h1 : 3 ≤ n) (hn : n ≤ 16) : Ev (fun k => spec_grCircle.f k (n : Int) own) (ints (circleL n), own) := by
  obtain ⟨K, hK⟩ := spec_grPath.ev n own (by omega) hn
  refine ⟨K, fun k hk => ?_⟩
  have c1 : spec_grPath.f k (n : Int) own = _ := hK k hk
  show spec_grCircle.f k (n : Int) own = _
  unfold spec_grCircle.f
  rw [c1, Option.bind_some, wrap_id (by omega) (by omega), show (n : Int) - 1 = ((n - 1 : Nat) : Int) by omega]
  have h2 := spec_grAdd.eq (pathL n) own n hn (pathL_length n) (pathL_lt (by omega)) 0 (n - 1) (by omega) (by omega)
  show (spec_grAdd.f (ints (pathL n)) own ((0 : Nat) : Int) ((n - 1 : Nat) : Int)).bind _ = _
  rw [h2, Option.bind_some]
  rfl

/-! impl_has -/
theorem impl_has.eq (x i : Int) (hx : 0 ≤ x) (hx1 : x < 2 ^ 63) (hi : 0 ≤ i) : impl_has.f x i = some (bit x i) := by unfold impl_has.f; rw [if_pos hi, has_bit hx hx1 hi]

/-! impl_in -/
theorem impl_in.eq (x a b : Int) : impl_in.f x a b = some (decide (a ≤ x) && decide (x ≤ b)) := by
  unfold impl_in.f
  by_cases h : a ≤ x
  · rw [if_pos h]; simp [h]
  · rw [if_neg h]; simp [h]

/-! impl_isCount -/
theorem impl_isCount.eq (x : Int) : impl_isCount.f x = some (decide (1 ≤ x) && decide (x ≤ 16)) := by unfold impl_isCount.f; rw [impl_in.eq]; rfl

/-! impl_whole -/
theorem impl_whole.eq (n : Int) (h0 : 0 ≤ n) (h1 : n ≤ 62) : impl_whole.f n = some (2 ^ n.toNat - 1) := by unfold impl_whole.f; rw [if_pos h0, whole_eq h0 h1]

/-! impl_isGraph -/
theorem impl_isGraph.inner (l : List Int) (own : Bool) (hn : l.length ≤ 16) (i : Nat) (hi : i < l.length) (hbi : 0 ≤ l[i] ∧ l[i] < 2 ^ 63) (hb : ∀ j, (h : j < i) → 0 ≤ l[j] ∧ l[j] < 2 ^ 63) (r : Bool) (hr : Ev (fun k => impl_isGraph.l0 k (l.length : Int) l (l.length : Int) ((i + 1 : Nat) : Int) l own) r) (d : Nat) :
    ∀ j : Nat, i - j = d → j ≤ i → Ev (fun k => impl_isGraph.l1 k (l.length : Int) (i : Int) l[i] l (l.length : Int) (i : Int) (i : Int) (j : Int) l own) (((List.range' j (i - j)).all fun j => bit (l.getD i 0) (j : Int) == bit (l.getD j 0) (i : Int)) && r) := by
  induction d with
  | zero =>
    intro j hd hj
    refine Ev.step (f := fun k => impl_isGraph.l0 k (l.length : Int) l (l.length : Int) ((i + 1 : Nat) : Int) l own) (fun k => ?_) (by rw [hd]; simpa using hr)
    simp only [impl_isGraph.l1]
    rw [if_neg (by omega), wrap_succ i (by omega)]
  | succ d ih =>
    intro j hd hj
    have hlt : j < i := by omega
    have hbj := hb j hlt
    rw [hd, List.range'_succ, List.all_cons, Bool.and_assoc]
    have ih' := ih (j + 1) (by omega) (by omega)
    rw [show i - (j + 1) = d by omega] at ih'
    have h1 := impl_has.eq l[i] (j : Int) hbi.1 hbi.2 (by omega)
    have h2 := impl_has.eq l[j] (i : Int) hbj.1 hbj.2 (by omega)
    rw [getD_get l i hi, getD_get l j (by omega)]
    rw [getD_get l i hi] at ih'
    have step : ∀ k, impl_isGraph.l1 (k + 1) (l.length : Int) (i : Int) l[i] l (l.length : Int) (i : Int) (i : Int) (j : Int) l own = if (bit l[i] (j : Int) == bit l[j] (i : Int)) = true then impl_isGraph.l1 k (l.length : Int) (i : Int) l[i] l (l.length : Int) (i : Int) (i : Int) ((j + 1 : Nat) : Int) l own else some false := by
      intro k
      simp only [impl_isGraph.l1]
      rw [if_pos (by omega), h1, Option.bind_some, if_pos (by omega), if_pos (by omega), rd_get l j (by omega), h2, Option.bind_some, wrap_succ j (by omega)]
      cases bit l[i] (j : Int) <;> cases bit l[j] (i : Int) <;> rfl
    cases e : (bit l[i] (j : Int) == bit l[j] (i : Int))
    · rw [Bool.false_and]
      exact now fun k => by rw [step k, e]; rfl
    · rw [Bool.true_and]
      exact Ev.step (fun k => by rw [step k, e]; rfl) ih'
theorem impl_isGraph.outer (l : List Int) (own : Bool) (hn : l.length ≤ 16) (d : Nat) :
    ∀ i : Nat, l.length - i = d → i ≤ l.length → (∀ j, (h : j < i) → (hj : j < l.length) → 0 ≤ l[j] ∧ l[j] < 2 ^ l.length) → Ev (fun k => impl_isGraph.l0 k (l.length : Int) l (l.length : Int) (i : Int) l own) ((List.range' i (l.length - i)).all (okRow l)) := by
  induction d with
  | zero =>
    intro i hd hi _
    refine now fun k => ?_
    simp only [impl_isGraph.l0]
    rw [if_neg (by omega), hd]
    rfl
  | succ d ih =>
    intro i hd hi hb
    have hlt : i < l.length := by omega
    have h16 := pow16 hn
    rw [hd, List.range'_succ, List.all_cons]
    have hr : okRow l i = (inSet l.length l[i] && (!(bit l[i] (i : Int)) && (List.range' 0 i).all fun j => bit (l.getD i 0) (j : Int) == bit (l.getD j 0) (i : Int))) := by
      unfold okRow
      rw [getD_get l i hlt]
    have hin : impl_in.f l[i] 0 (2 ^ (l.length : Int).toNat - 1) = some (inSet l.length l[i]) := by
      rw [impl_in.eq, Int.toNat_natCast]
      unfold inSet
      congr 2
      rw [Bool.eq_iff_iff]
      simp only [decide_eq_true_eq]
      omega
    rw [hr]
    cases e1 : inSet l.length l[i]
    · rw [Bool.false_and, Bool.false_and]
      refine ⟨2, fun k hk => ?_⟩
      obtain ⟨m, rfl⟩ : ∃ m, k = m + 2 := ⟨k - 2, by omega⟩
      show impl_isGraph.l0 (m + 2) (l.length : Int) l (l.length : Int) (i : Int) l own = _
      simp only [impl_isGraph.l0]
      rw [if_pos (by omega), if_pos (by omega), if_pos (by omega), rd_get l i hlt, impl_whole.eq _ (by omega) (by omega), Option.bind_some, hin, Option.bind_some, e1, if_neg (by decide)]
      simp only [impl_isGraph.j1, if_true]
    · have hbi : 0 ≤ l[i] ∧ l[i] < 2 ^ l.length := by simpa [inSet] using e1
      have hbi' : 0 ≤ l[i] ∧ l[i] < 2 ^ 63 := by omega
      rw [Bool.true_and]
      have head : ∀ k, impl_isGraph.l0 (k + 2) (l.length : Int) l (l.length : Int) (i : Int) l own = if bit l[i] (i : Int) = true then some false else impl_isGraph.l1 k (l.length : Int) (i : Int) l[i] l (l.length : Int) (i : Int) (i : Int) ((0 : Nat) : Int) l own := by
        intro k
        simp only [impl_isGraph.l0]
        rw [if_pos (by omega), if_pos (by omega), if_pos (by omega), rd_get l i hlt, impl_whole.eq _ (by omega) (by omega), Option.bind_some, hin, Option.bind_some, e1, if_pos rfl, impl_has.eq l[i] (i : Int) hbi'.1 hbi'.2 (by omega), Option.bind_some]
        simp only [impl_isGraph.j1]
        rfl
      cases e2 : bit l[i] (i : Int)
      · rw [Bool.not_false, Bool.true_and]
        have ih' := ih (i + 1) (by omega) (by omega) (fun j h hj => by
          rcases Nat.lt_succ_iff_lt_or_eq.1 h with h | h
          · exact hb j h hj
          · subst h; exact hbi)
        rw [show l.length - (i + 1) = d by omega] at ih'
        obtain ⟨K, hK⟩ := impl_isGraph.inner l own hn i hlt hbi' (fun j h => by have := hb j h (by omega); omega) _ ih' i 0 (by omega) (by omega)
        rw [Nat.sub_zero] at hK
        refine ⟨K + 2, fun k hk => ?_⟩
        obtain ⟨m, rfl⟩ : ∃ m, k = m + 2 := ⟨k - 2, by omega⟩
        show impl_isGraph.l0 (m + 2) (l.length : Int) l (l.length : Int) (i : Int) l own = _
        rw [head m, e2, if_neg (by decide)]
        exact hK m (by omega)
      · rw [Bool.not_true, Bool.false_and, Bool.false_and]
        refine ⟨2, fun k hk => ?_⟩
        obtain ⟨m, rfl⟩ : ∃ m, k = m + 2 := ⟨k - 2, by omega⟩
        show impl_isGraph.l0 (m + 2) (l.length : Int) l (l.length : Int) (i : Int) l own = _
        rw [head m, e2, if_pos rfl]
theorem impl_isGraph.ev (l : List Int) (own : Bool) : Ev (fun k => impl_isGraph.f k l own) (good l) := by
  rw [good_rows]
  by_cases hn : 1 ≤ l.length ∧ l.length ≤ 16
  · have e1 : impl_isCount.f (l.length : Int) = some true := by rw [impl_isCount.eq, decide_eq_true (by omega), decide_eq_true (by omega)]; rfl
    rw [show (decide (1 ≤ l.length ∧ l.length ≤ 16)) = true from decide_eq_true hn, Bool.true_and]
    refine Ev.congr (f := fun k => impl_isGraph.l0 k (l.length : Int) l (l.length : Int) ((0 : Nat) : Int) l own) (fun k => ?_) (by simpa using impl_isGraph.outer l own hn.2 l.length 0 (by omega) (by omega) (fun j h => absurd h (by omega)))
    unfold impl_isGraph.f
    rw [e1, Option.bind_some, if_pos rfl]
    rfl
  · have e1 : impl_isCount.f (l.length : Int) = some false := by
      rw [impl_isCount.eq]
      congr 1
      rw [Bool.and_eq_false_iff, decide_eq_false_iff_not, decide_eq_false_iff_not]
      omega
    rw [show (decide (1 ≤ l.length ∧ l.length ≤ 16)) = false from decide_eq_false hn, Bool.false_and]
    refine always fun k => ?_
    unfold impl_isGraph.f
    rw [e1, Option.bind_some, if_neg (by decide)]

/-! impl_count -/
theorem impl_count.eq (x : Int) (h0 : 0 ≤ x) (h1 : x < 65536) : impl_count.f x = some ((pop x.toNat : Nat) : Int) := by
  obtain ⟨n, rfl⟩ : ∃ n : Nat, x = n := ⟨x.toNat, by omega⟩
  unfold impl_count.f
  rw [uwrap_id n (by omega), bits_OnesCount.eq n (by omega), Int.toNat_natCast]
  rfl

/-! impl_top -/
theorem impl_top.eq (k : Nat) (x : Nat) (hx : x < 2 ^ 63) : impl_top.f (k + 1) (x : Int) = some (pdeg x) := by
  have e : IntKind.u64.wrap (x : Int) = (x : Int) := by
    show (x : Int) % _ = _
    exact Int.emod_eq_of_lt (by omega) (by show (x : Int) < 18446744073709551616; omega)
  have hb : blen x ≤ 63 := blen_le hx
  unfold impl_top.f
  rw [e, bits_Len.eq k x (by omega), Option.bind_some, wrap_id (by omega) (by omega)]
  rfl

/-! impl_reduced -/
theorem impl_reduced.step_eq (k : Nat) (s b : Nat) (hs : s < 2 ^ 62) (hb : b < 2 ^ 62) (h0 : b ≠ 0) : impl_reduced.step (k + 1) (s : Int) (b : Int) = some (redOne s b : Int) := by
  have h1 := blen_ne h0
  unfold impl_reduced.step redOne
  rw [impl_top.eq k b (by omega), Option.bind_some, impl_has.eq (s : Int) (pdeg b) (by omega) (by omega) (by unfold pdeg; omega), Option.bind_some]
  have e1 : bit (s : Int) (pdeg b) = s.testBit (blen b - 1) := by
    unfold bit pdeg
    rw [show ((blen b : Int) - 1).toNat = blen b - 1 by omega]
    rfl
  rw [e1]
  split
  · rw [xor_nat s b (by omega) (by omega)]
  · rfl
theorem impl_reduced.go_eq (k : Nat) : ∀ (l : List Nat) (s : Nat), s < 2 ^ 62 → (∀ b ∈ l, b < 2 ^ 62 ∧ b ≠ 0) → impl_reduced.go (k + 1) (ints l) (s : Int) = some ((l.foldl redOne s : Nat) : Int)
  | [], s, _, _ => rfl
  | b :: l, s, hs, h => by
    have hb := h b List.mem_cons_self
    show impl_reduced.go (k + 1) ((b : Int) :: ints l) (s : Int) = _
    unfold impl_reduced.go
    rw [impl_reduced.step_eq k s b hs hb.1 hb.2, Option.bind_some, impl_reduced.go_eq k l (redOne s b) (redOne_lt hs hb.1) (fun x hx => h x (List.mem_cons_of_mem _ hx))]
    rfl
theorem impl_reduced.eq (k : Nat) (l : List Nat) (s : Nat) (hs : s < 2 ^ 62) (h : ∀ b ∈ l, b < 2 ^ 62 ∧ b ≠ 0) : impl_reduced.f (k + 1) (ints l) (s : Int) = some (red l s : Int) := by
  unfold impl_reduced.f
  have e1 : (ints l).reverse = ints l.reverse := by unfold ints; rw [List.map_reverse]
  rw [e1, impl_reduced.go_eq k l.reverse s hs (fun b hb => h b (by simpa using hb)), List.foldl_reverse]
  rfl

/-! impl_extended -/
theorem impl_extended.tp_eq (k b : Nat) (hb : b < 2 ^ 62) : impl_extended.tp (k + 1) (b : Int) = pdeg b ∧ impl_extended.okB (k + 1) (b : Int) = true := by
  have h1 : blen b ≤ 62 := blen_le hb
  unfold impl_extended.tp impl_extended.okB
  rw [impl_top.eq k b (by omega)]
  refine ⟨rfl, ?_⟩
  simp only [Bool.and_eq_true, decide_eq_true_eq]
  unfold pdeg
  omega
theorem impl_extended.go_eq (k : Nat) (t : Nat) (ht : t < 2 ^ 62) (h0 : t ≠ 0) : ∀ l : List Nat, (∀ b ∈ l, b < 2 ^ 62) → impl_extended.go (k + 1) (t : Int) (ints l) = some (ints (l.map (putOne t)))
  | [], _ => rfl
  | b :: l, h => by
    have hb := h b List.mem_cons_self
    have h1 := blen_ne h0
    show impl_extended.go (k + 1) (t : Int) ((b : Int) :: ints l) = _
    unfold impl_extended.go
    rw [impl_top.eq k t (by omega), Option.bind_some, impl_has.eq (b : Int) (pdeg t) (by omega) (by omega) (by unfold pdeg; omega), Option.bind_some, impl_extended.go_eq k t ht h0 l (fun x hx => h x (List.mem_cons_of_mem _ hx)), Option.bind_some]
    have e1 : bit (b : Int) (pdeg t) = b.testBit (blen t - 1) := by
      unfold bit pdeg
      rw [show ((blen t : Int) - 1).toNat = blen t - 1 by omega]
      rfl
    rw [e1, xor_nat b t (by omega) (by omega), List.map_cons]
    unfold putOne
    show some _ = some (_ :: _)
    congr 2
    split <;> rfl
theorem impl_extended.eq (k : Nat) (l : List Nat) (s : Nat) (hs : s < 2 ^ 62) (hl : ∀ b ∈ l, b < 2 ^ 62) (hB : Basis l) (hn : l.length ≤ 1048576) : impl_extended.f (k + 1) (ints l) (s : Int) = some (ints (put l s)) := by
  have hr := red_lt l s hl hs
  have hc := red_clean l s hB
  unfold impl_extended.f put
  rw [impl_reduced.eq k l s hs (fun b hb => ⟨hl b hb, hB.pos b hb⟩), Option.bind_some]
  by_cases hz : red l s = 0
  · rw [if_pos (by omega), if_pos hz]
  · rw [if_neg (by omega), if_neg hz]
    generalize red l s = t at hr hc hz ⊢
    rw [impl_extended.go_eq k t hr hz l hl, Option.bind_some]
    have hp := putTop_perm hB hz hc
    have hT := putTop_basis hB hz hc
    have hlo := putTop_lt hl hr
    have ea : ints (l.map (putOne t)) ++ [(t : Int)] = ints (l.map (putOne t) ++ [t]) := by rw [ints_append]; rfl
    rw [ea]
    have hmem : ∀ x ∈ ints (l.map (putOne t) ++ [t]), ∃ b : Nat, x = (b : Int) ∧ b ∈ putTop l t := fun x hx => by
      unfold ints at hx
      obtain ⟨b, hb, rfl⟩ := List.mem_map.1 hx
      exact ⟨b, rfl, hp.mem_iff.1 hb⟩
    have hfit : impl_extended.fit (k + 1) (ints (l.map (putOne t) ++ [t])) = true := by
      unfold impl_extended.fit
      simp only [Bool.and_eq_true, List.all_eq_true, decide_eq_true_eq]
      refine ⟨⟨fun x hx => ?_, fun x hx y hy => ?_⟩, ?_⟩
      · obtain ⟨b, rfl, hb⟩ := hmem x hx
        exact (impl_extended.tp_eq k b (hlo b hb)).2
      · obtain ⟨b, rfl, hb⟩ := hmem x hx
        obtain ⟨c, rfl, hc2⟩ := hmem y hy
        rw [(impl_extended.tp_eq k b (hlo b hb)).1, (impl_extended.tp_eq k c (hlo c hc2)).1]
        simp only [Bool.or_eq_true, bne_iff_ne, beq_iff_eq]
        by_cases e : b = c
        · exact .inr (by rw [e])
        · refine .inl fun e2 => e ?_
          have e3 : blen b = blen c := by unfold pdeg at e2; omega
          have key : ∀ (r : List Nat), r.Pairwise (fun a b => blen a < blen b) → b ∈ r → c ∈ r → b = c := by
            intro r
            induction r with
            | nil => intro _ hx; simp at hx
            | cons d r ih =>
              intro hpw h1 h2
              obtain ⟨p1, p2⟩ := List.pairwise_cons.1 hpw
              rcases List.mem_cons.1 h1 with e5 | h1
              · rcases List.mem_cons.1 h2 with e6 | h2
                · rw [e5, e6]
                · have := p1 c h2; rw [← e5] at this; omega
              · rcases List.mem_cons.1 h2 with e6 | h2
                · have := p1 b h1; rw [← e6] at this; omega
                · exact ih p2 h1 h2
          exact key _ hT.up hb hc2
      · rw [ints_length, List.length_append, List.length_map, List.length_singleton]
        omega
    rw [if_pos hfit]
    congr 1
    have hs := List.pairwise_mergeSort (le := fun x y : Int => !decide (impl_extended.tp (k + 1) y < impl_extended.tp (k + 1) x)) (fun a b c h1 h2 => by simp at h1 h2 ⊢; omega) (fun a b => by simp; omega) (ints (l.map (putOne t) ++ [t]))
    refine List.Perm.eq_of_pairwise (le := fun x y : Int => impl_extended.tp (k + 1) x ≤ impl_extended.tp (k + 1) y) (fun a b ha hb h1 h2 => ?_) (hs.imp fun h => by simpa using h) ?_ ((List.mergeSort_perm _ _).trans (hp.map _))
    · obtain ⟨x, rfl, hx⟩ := hmem a ((List.mergeSort_perm _ _).mem_iff.1 ha)
      have hfa := impl_extended.fit_apart hfit
      have hb2 : b ∈ ints (l.map (putOne t) ++ [t]) := (hp.map _).mem_iff.2 hb
      exact hfa _ ((List.mergeSort_perm _ _).mem_iff.1 ha) b hb2 (Int.le_antisymm h1 h2)
    · unfold ints
      rw [List.pairwise_map]
      refine hT.up.imp_of_mem (fun {a b} ha hb h => ?_)
      rw [(impl_extended.tp_eq k a (hlo a ha)).1, (impl_extended.tp_eq k b (hlo b hb)).1]
      unfold pdeg
      omega

/-! spec_grIn -/
theorem spec_grIn.eq (x i : Int) (hx : 0 ≤ x) (hx1 : x < 2 ^ 63) (hi : 0 ≤ i) : spec_grIn.f x i = some (bit x i) := by unfold spec_grIn.f; rw [if_pos hi, in_bit hx hx1 hi]

/-! spec_l1In -/
theorem spec_l1In.eq (x a b : Int) : spec_l1In.f x a b = some (decide (a ≤ x) && decide (x ≤ b)) := by
  unfold spec_l1In.f
  by_cases h : a ≤ x
  · rw [if_pos (by omega)]; simp [h]
  · rw [if_neg (by omega)]; simp [h]

/-! spec_grSize -/
theorem spec_grSize.eq (x : Int) : spec_grSize.f x = some (decide (1 ≤ x) && decide (x ≤ 16)) := by unfold spec_grSize.f; rw [spec_l1In.eq]; rfl

/-! spec_l1All -/
theorem spec_l1All.loop (l : List Int) (a b : Int) (h : l.length < 4611686018427387904) (d : Nat) : ∀ i : Nat, l.length - i = d → i ≤ l.length → Ev (fun k => spec_l1All.l0 k a b l (l.length : Int) (i : Int)) ((l.drop i).all fun x => decide (a ≤ x) && decide (x ≤ b)) := by
  induction d with
  | zero =>
    intro i hd hi
    refine now fun k => ?_
    simp only [spec_l1All.l0]
    rw [if_neg (by omega), List.drop_eq_nil_of_le (by omega)]
    rfl
  | succ d ih =>
    intro i hd hi
    have hlt : i < l.length := by omega
    rw [drop_cons l i hlt, List.all_cons]
    by_cases e : (decide (a ≤ l[i]) && decide (l[i] ≤ b)) = true
    · refine Ev.step (f := fun k => spec_l1All.l0 k a b l (l.length : Int) ((i + 1 : Nat) : Int)) (fun k => ?_) (by rw [e, Bool.true_and]; exact ih (i + 1) (by omega) (by omega))
      simp only [spec_l1All.l0]
      rw [if_pos (by omega), if_pos (by omega), if_pos (by omega), rd_get l i hlt, spec_l1In.eq, e, wrap_succ i (by omega)]
      rfl
    · refine now fun k => ?_
      simp only [spec_l1All.l0]
      replace e := Bool.eq_false_iff.mpr e
      rw [if_pos (by omega), if_pos (by omega), if_pos (by omega), rd_get l i hlt, spec_l1In.eq, e]
      rfl
theorem spec_l1All.ev (l : List Int) (a b : Int) (h : l.length < 4611686018427387904) : Ev (fun k => spec_l1All.f k l a b) (l.all fun x => decide (a ≤ x) && decide (x ≤ b)) :=
  spec_l1All.loop l a b h l.length 0 (by omega) (by omega)

/-! spec_grGood -/
theorem spec_grGood.inner (l : List Int) (own : Bool) (hn : l.length ≤ 16) (hg : ∀ x ∈ l, 0 ≤ x ∧ x < 2 ^ l.length) (i : Nat) (hi : i < l.length) (r : Bool) (hr : Ev (fun k => spec_grGood.l0 k l (l.length : Int) ((i + 1 : Nat) : Int) l own) r) (d : Nat) :
    ∀ j : Nat, l.length - j = d → j ≤ l.length → Ev (fun k => spec_grGood.l1 k (i : Int) l[i] l (l.length : Int) (i : Int) (l.length : Int) (j : Int) l own) (((List.range' j (l.length - j)).all fun j => okPair l i j) && r) := by
  induction d with
  | zero =>
    intro j hd hj
    refine Ev.step (f := fun k => spec_grGood.l0 k l (l.length : Int) ((i + 1 : Nat) : Int) l own) (fun k => ?_) (by rw [hd]; simpa using hr)
    simp only [spec_grGood.l1]
    rw [if_neg (by omega), wrap_succ i (by omega)]
  | succ d ih =>
    intro j hd hj
    have hlt : j < l.length := by omega
    have hbi := set_bounds l hn hg i hi
    have hbj := set_bounds l hn hg j hlt
    rw [hd, List.range'_succ, List.all_cons, Bool.and_assoc]
    have ih' := ih (j + 1) (by omega) (by omega)
    rw [show l.length - (j + 1) = d by omega] at ih'
    have hb := spec_grIn.eq l[i] (j : Int) hbi.1 hbi.2 (by omega)
    have hb2 := spec_grIn.eq l[j] (i : Int) hbj.1 hbj.2 (by omega)
    have step : ∀ k, spec_grGood.l1 (k + 1) (i : Int) l[i] l (l.length : Int) (i : Int) (l.length : Int) (j : Int) l own = if okPair l i j = true then spec_grGood.l1 k (i : Int) l[i] l (l.length : Int) (i : Int) (l.length : Int) ((j + 1 : Nat) : Int) l own else some false := by
      intro k
      simp only [spec_grGood.l1]
      rw [if_pos (by omega), hb, Option.bind_some, okPair_eq l i j hi hlt]
      cases e1 : bit l[i] (j : Int)
      · simp only [Bool.false_eq_true, if_false, Bool.not_false, Bool.true_or, if_true]
        rw [wrap_succ j (by omega)]
      · simp only [if_true, Bool.not_true, Bool.false_or]
        by_cases e2 : i = j
        · subst e2
          simp
        · rw [if_neg (by omega), if_pos (by omega), if_pos (by omega), rd_get l j hlt, hb2, Option.bind_some, wrap_succ j (by omega)]
          simp [e2]
    cases e : okPair l i j
    · rw [Bool.false_and]
      exact now fun k => by rw [step k, e]; rfl
    · rw [Bool.true_and]
      exact Ev.step (fun k => by rw [step k, e]; rfl) ih'
theorem spec_grGood.outer (l : List Int) (own : Bool) (hn : l.length ≤ 16) (hg : ∀ x ∈ l, 0 ≤ x ∧ x < 2 ^ l.length) (d : Nat) :
    ∀ i : Nat, l.length - i = d → i ≤ l.length → Ev (fun k => spec_grGood.l0 k l (l.length : Int) (i : Int) l own) ((List.range' i (l.length - i)).all fun i => (List.range' 0 l.length).all fun j => okPair l i j) := by
  induction d with
  | zero =>
    intro i hd hi
    refine now fun k => ?_
    simp only [spec_grGood.l0]
    rw [if_neg (by omega), hd]
    rfl
  | succ d ih =>
    intro i hd hi
    have hlt : i < l.length := by omega
    rw [hd, List.range'_succ, List.all_cons]
    have ih' := ih (i + 1) (by omega) (by omega)
    rw [show l.length - (i + 1) = d by omega] at ih'
    refine Ev.step (f := fun k => spec_grGood.l1 k (i : Int) l[i] l (l.length : Int) (i : Int) (l.length : Int) ((0 : Nat) : Int) l own) (fun k => ?_) (spec_grGood.inner l own hn hg i hlt _ ih' l.length 0 (by omega) (by omega))
    simp only [spec_grGood.l0]
    rw [if_pos (by omega), if_pos (by omega), if_pos (by omega), rd_get l i hlt]
    rfl
theorem spec_grGood.ev (l : List Int) (own : Bool) (h : l.length < 4611686018427387904) : Ev (fun k => spec_grGood.f k l own) (good l) := by
  rw [good_eq]
  by_cases hn : 1 ≤ l.length ∧ l.length ≤ 16
  · have e1 : spec_grSize.f (l.length : Int) = some true := by rw [spec_grSize.eq, decide_eq_true (by omega), decide_eq_true (by omega)]; rfl
    have e2 := spec_l1All.ev l 0 (wrap64 ((shl .i64 1 (l.length : Int)) - 1)) h
    rw [whole_eq (by omega) (by omega)] at e2
    rw [show (decide (1 ≤ l.length ∧ l.length ≤ 16)) = true from decide_eq_true hn, Bool.true_and]
    have e3 : (l.all fun x => decide (0 ≤ x) && decide (x ≤ 2 ^ (l.length : Int).toNat - 1)) = l.all (inSet l.length) := by
      congr 1
      funext x
      unfold inSet
      rw [Int.toNat_natCast]
      congr 1
      rw [Bool.eq_iff_iff]
      simp only [decide_eq_true_eq]
      omega
    rw [e3] at e2
    obtain ⟨K, hK⟩ := e2
    by_cases hg : l.all (inSet l.length) = true
    · rw [hg, Bool.true_and]
      have hg' := inSet_all l hg
      obtain ⟨K2, hK2⟩ := spec_grGood.outer l own hn.2 hg' l.length 0 (by omega) (by omega)
      refine ⟨K + K2 + 1, fun k hk => ?_⟩
      obtain ⟨m, rfl⟩ : ∃ m, k = m + 1 := ⟨k - 1, by omega⟩
      have h1 : spec_l1All.f (m + 1) l 0 (2 ^ (l.length : Int).toNat - 1) = _ := hK (m + 1) (by omega)
      have h2 : spec_grGood.l0 m l (l.length : Int) ((0 : Nat) : Int) l own = _ := hK2 m (by omega)
      show spec_grGood.f (m + 1) l own = _
      unfold spec_grGood.f
      rw [e1, Option.bind_some, if_pos rfl, whole_eq (by omega) (by omega), h1, Option.bind_some, hg]
      simp only [spec_grGood.j0, Bool.not_true, Bool.false_eq_true, if_false]
      rw [Nat.sub_zero] at h2
      exact h2
    · replace hg := Bool.eq_false_iff.mpr hg
      rw [hg, Bool.false_and]
      refine ⟨K + 1, fun k hk => ?_⟩
      obtain ⟨m, rfl⟩ : ∃ m, k = m + 1 := ⟨k - 1, by omega⟩
      have h1 : spec_l1All.f (m + 1) l 0 (2 ^ (l.length : Int).toNat - 1) = _ := hK (m + 1) (by omega)
      show spec_grGood.f (m + 1) l own = _
      unfold spec_grGood.f
      rw [e1, Option.bind_some, if_pos rfl, whole_eq (by omega) (by omega), h1, Option.bind_some, hg]
      simp only [spec_grGood.j0, Bool.not_false, if_true]
  · have e1 : spec_grSize.f (l.length : Int) = some false := by
      rw [spec_grSize.eq]
      congr 1
      rw [Bool.and_eq_false_iff, decide_eq_false_iff_not, decide_eq_false_iff_not]
      omega
    rw [show (decide (1 ≤ l.length ∧ l.length ≤ 16)) = false from decide_eq_false hn, Bool.false_and]
    refine now fun k => ?_
    unfold spec_grGood.f
    rw [e1, Option.bind_some, if_neg (by decide)]
    simp only [spec_grGood.j0, if_true]

/-! spec_grCount -/
theorem spec_grCount.loop : ∀ (k : Nat) (x : Nat) (o : Int), k ≤ 63 → x < 2 ^ k → 0 ≤ o → o + 64 < 9223372036854775807 → o ≤ 63 - k → Ev (fun n => spec_grCount.l0 n (x : Int) o) (o + (cnt k x : Nat))
  | 0, x, o, _, hx, h0, h1, _ => by
    have : x = 0 := by omega
    subst this
    refine now fun k => ?_
    simp only [spec_grCount.l0]
    rw [if_neg (by decide)]
    simp [cnt]
  | k + 1, x, o, hk, hx, h0, h1, h2 => by
    by_cases e : x = 0
    · subst e
      refine now fun k => ?_
      simp only [spec_grCount.l0]
      rw [if_neg (by decide), cnt_zero]
      simp
    · have hx2 : x / 2 < 2 ^ k := by rw [Nat.pow_succ] at hx; omega
      have h63 : x < 2 ^ 63 := Nat.lt_of_lt_of_le hx (Nat.pow_le_pow_right (by decide) hk)
      have ih := spec_grCount.loop k (x / 2) (o + ((x % 2 : Nat) : Int)) (by omega) hx2 (by omega) (by omega) (by omega)
      rw [cnt, show o + ((x % 2 + cnt k (x / 2) : Nat) : Int) = o + ((x % 2 : Nat) : Int) + ((cnt k (x / 2) : Nat) : Int) by omega]
      refine Ev.step (f := fun n => spec_grCount.l0 n ((x / 2 : Nat) : Int) (o + ((x % 2 : Nat) : Int))) (fun n => ?_) ih
      simp only [spec_grCount.l0]
      rw [if_pos (by omega), Int.tdiv_eq_ediv_of_nonneg (by omega), Int.tmod_eq_emod_of_nonneg (by omega), wrap_id (by omega) (by omega), wrap_id (by omega) (by omega)]
      norm_cast
theorem spec_grCount.ev (x : Int) (h0 : 0 ≤ x) (h1 : x < 2 ^ 63) : Ev (fun k => spec_grCount.f k x) ((pop x.toNat : Nat) : Int) := by
  have := spec_grCount.loop 63 x.toNat 0 (by omega) (by omega) (by omega) (by omega) (by omega)
  rw [Int.toNat_of_nonneg h0, Int.zero_add] at this
  rw [pop_cnt 63 x.toNat (by omega)]
  exact this

/-! spec_paEquations -/
/-- The rest that a flag asks for. -/
def restB (b : Bool) : Nat := if b = true then 1 else 0
theorem rest_du (l : List Int) (b : Bool) (i : Nat) : ((Int.tmod ((pop (nb l i) : Nat) : Int) 2 == 1) != b) = duP l (restB b) i := by
  rw [show Int.tmod ((pop (nb l i) : Nat) : Int) 2 = ((pop (nb l i) % 2 : Nat) : Int) from rfl]
  unfold duP restB
  have h : pop (nb l i) % 2 = 0 ∨ pop (nb l i) % 2 = 1 := by omega
  have h2 : (pop (nb l i) + 0) % 2 = pop (nb l i) % 2 := by omega
  have h3 : (pop (nb l i) + 1) % 2 = (pop (nb l i) % 2 + 1) % 2 := by omega
  cases b
  · rw [if_neg (by decide), h2]
    rcases h with h | h <;> rw [h] <;> rfl
  · rw [if_pos rfl, h3]
    rcases h with h | h <;> rw [h] <;> rfl
theorem spec_paEquations.loop (l : List Int) (b : Bool) (hG : GoodG l) : ∀ (d t : Nat), l.length - t = d → t ≤ l.length → Ev (fun k => spec_paEquations.l0 k b (ints ((List.range t).map (rowP l (restB b)))) ((dueP l (restB b) t : Nat) : Int) l (l.length : Int) (t : Int)) (ints (rowsP l (restB b)), ((dueP l (restB b) l.length : Nat) : Int))
  | 0, t, hd, ht => by
    have e : t = l.length := by omega
    subst e
    refine now fun k => ?_
    simp only [spec_paEquations.l0]
    rw [if_neg (by omega)]
    rfl
  | d + 1, t, hd, ht => by
    have h16 : (2 : Nat) ^ l.length ≤ 2 ^ 16 := Nat.pow_le_pow_right (by decide) hG.top
    have htop := hG.top
    have hlt : t < l.length := by omega
    obtain ⟨K2, hK2⟩ := spec_paEquations.loop l b hG d (t + 1) (by omega) (by omega)
    have hx := hG.sets (rd l (t : Int)) (rd_mem l _ (by omega) (by omega))
    have hrd : rd l (t : Int) = ((nb l t : Nat) : Int) := by unfold nb; omega
    have hn := nb_lt hG hlt
    have hdl := dueP_lt l (restB b) t
    have hpt : (2 : Nat) ^ t < 2 ^ l.length := Nat.pow_lt_pow_right (by decide) hlt
    obtain ⟨K, hK⟩ := spec_grCount.ev ((nb l t : Nat) : Int) (by omega) (by omega)
    refine ⟨K + K2 + 1, fun k hk => ?_⟩
    obtain ⟨k, rfl⟩ : ∃ k', k = k' + 1 := ⟨k - 1, by omega⟩
    have h1 : spec_grCount.f k ((nb l t : Nat) : Int) = _ := hK k (by omega)
    rw [Int.toNat_natCast] at h1
    have h2 : spec_paEquations.l0 k b (ints ((List.range (t + 1)).map (rowP l (restB b)))) ((dueP l (restB b) (t + 1) : Nat) : Int) l (l.length : Int) ((t + 1 : Nat) : Int) = _ := hK2 k (by omega)
    have hlen : (ints ((List.range t).map (rowP l (restB b)))).length < 17592186044416 := by rw [ints_length, List.length_map, List.length_range]; omega
    rw [List.range_succ, List.map_append, ints_append, dueP] at h2
    simp only [spec_paEquations.l0]
    rw [if_pos (by omega), if_pos (by omega), if_pos (by omega), hrd, h1, Option.bind_some, rest_du, wrap_succ t (by omega), if_pos hlen, shl_one (by omega) (by omega), Int.toNat_natCast, or_nat _ _ (by omega) (by omega), or_nat _ _ (by omega) (by omega)]
    have er : rowP l (restB b) t = if duP l (restB b) t = true then nb l t ||| 2 ^ t else nb l t := rfl
    cases e : duP l (restB b) t
    · rw [e, if_neg (by decide)] at er h2
      rw [if_neg (by decide), if_pos hlen]
      rw [List.map_cons, List.map_nil, er] at h2
      exact h2
    · rw [e, if_pos rfl] at er h2
      rw [if_pos rfl]
      rw [List.map_cons, List.map_nil, er] at h2
      exact h2
theorem spec_paEquations.ev (l : List Int) (own b : Bool) (hG : GoodG l) : Ev (fun k => spec_paEquations.f k l own b) (ints (rowsP l (restB b)), ((dueP l (restB b) l.length : Nat) : Int)) := spec_paEquations.loop l b hG l.length 0 (by omega) (by omega)

/-! spec_soTop -/
theorem spec_soTop.loop : ∀ (n : Nat) (x : Nat) (o : Int), blen x = n → n ≤ 63 → -1 ≤ o → o + n ≤ 100 → Ev (fun k => spec_soTop.l0 k (x : Int) o) (o + n)
  | 0, x, o, hn, _, h0, h1 => by
    have : x = 0 := by
      by_cases e : x = 0
      · exact e
      · rw [blen_pos e] at hn; omega
    subst this
    refine now fun k => ?_
    simp only [spec_soTop.l0]
    rw [if_neg (by decide)]
    simp
  | n + 1, x, o, hn, h63, h0, h1 => by
    have hb : x < 2 ^ 63 := lt_of_blen (by omega)
    have hx : x ≠ 0 := fun e => by rw [e, blen_zero] at hn; omega
    rw [blen_pos hx] at hn
    have ih := spec_soTop.loop n (x / 2) (o + 1) (by omega) (by omega) (by omega) (by omega)
    rw [show o + 1 + (n : Int) = o + ((n + 1 : Nat) : Int) by omega] at ih
    refine Ev.step (f := fun k => spec_soTop.l0 k ((x / 2 : Nat) : Int) (o + 1)) (fun k => ?_) ih
    simp only [spec_soTop.l0]
    rw [if_pos (by omega), Int.tdiv_eq_ediv_of_nonneg (by omega), wrap_id (by omega) (by omega), wrap_id (by omega) (by omega), show (x : Int) / 2 = ((x / 2 : Nat) : Int) by omega]
theorem spec_soTop.ev (x : Nat) (hx : x < 2 ^ 63) : Ev (fun k => spec_soTop.f k (x : Int)) (pdeg x) := by
  have hb : blen x ≤ 63 := blen_le hx
  have := spec_soTop.loop (blen x) x (-1) rfl hb (by omega) (by omega)
  rw [show (-1 : Int) + (blen x : Int) = pdeg x by unfold pdeg; omega] at this
  exact this

/-! impl_isSet -/
theorem impl_isSet.p_eq (n : Nat) (h : n ≤ 16) (s : Int) : impl_isSet.p n s = !(inSet n s) := by
  unfold impl_isSet.p
  rw [whole_eq (by omega) (by omega), impl_in.eq, Int.toNat_natCast, ← inSet_eq' n s]
  rfl
theorem impl_isSet.ev (l : List Int) (own : Bool) (ss : List Int) : Ev (fun k => impl_isSet.f k l own ss) (good l && ss.all (inSet l.length)) := by
  obtain ⟨K, hK⟩ := impl_isGraph.ev l own
  refine ⟨K, fun k hk => ?_⟩
  have h1 : impl_isGraph.f k l own = _ := hK k hk
  show impl_isSet.f k l own ss = _
  unfold impl_isSet.f
  rw [h1, Option.bind_some]
  cases hg : good l
  · rfl
  · have := ((good_iff l).1 hg).top
    rw [if_pos rfl, Bool.true_and, show impl_isSet.p l.length = (fun s => !(inSet l.length s)) from funext (impl_isSet.p_eq l.length this), List.not_any_eq_all_not]
    simp

/-! impl_Graph_all -/
theorem nb_rd {l : List Int} (hG : GoodG l) {i : Nat} (hi : i < l.length) : rd l (i : Int) = ((nb l i : Nat) : Int) := by
  have hx := hG.sets (rd l (i : Int)) (rd_mem l _ (by omega) (by omega))
  unfold nb
  omega
theorem tmod_par (p r : Nat) : (Int.tmod (p : Int) 2 = (r : Int)) ↔ p % 2 = r := by
  rw [show Int.tmod (p : Int) 2 = ((p % 2 : Nat) : Int) from rfl]
  omega
theorem impl_Graph_all.loop (l : List Int) (own : Bool) (hG : GoodG l) (s r : Nat) (hs : s < 2 ^ l.length) : ∀ (d t : Nat), l.length - t = d → t ≤ l.length → Ev (fun k => impl_Graph_all.l0 k (s : Int) (r : Int) l (l.length : Int) (t : Int)) ((List.range' t d).all fun i => !s.testBit i || decide (pop (nb l i &&& s) % 2 = r))
  | 0, t, hd, ht => by
    refine now fun k => ?_
    simp only [impl_Graph_all.l0]
    rw [if_neg (by omega)]
    rfl
  | d + 1, t, hd, ht => by
    have h16 : (2 : Nat) ^ l.length ≤ 2 ^ 16 := Nat.pow_le_pow_right (by decide) hG.top
    have htop := hG.top
    have hlt : t < l.length := by omega
    have ih := impl_Graph_all.loop l own hG s r hs d (t + 1) (by omega) (by omega)
    have hn := nb_lt hG hlt
    have hin := impl_has.eq (s : Int) (t : Int) (by omega) (by omega) (by omega)
    have hbit : bit (s : Int) (t : Int) = s.testBit t := by unfold bit; simp
    rw [hbit] at hin
    have hand : (nb l t &&& s) < 2 ^ l.length := Nat.lt_of_le_of_lt Nat.and_le_right hs
    have hc := impl_count.eq (((nb l t &&& s : Nat)) : Int) (by omega) (by omega)
    rw [Int.toNat_natCast] at hc
    rw [List.range'_succ, List.all_cons]
    have step : ∀ k, impl_Graph_all.l0 (k + 1) (s : Int) (r : Int) l (l.length : Int) (t : Int) = if (!s.testBit t || decide (pop (nb l t &&& s) % 2 = r)) = true then impl_Graph_all.l0 k (s : Int) (r : Int) l (l.length : Int) ((t + 1 : Nat) : Int) else some false := fun k => by
      simp only [impl_Graph_all.l0]
      rw [if_pos (by omega), if_pos (by omega), if_pos (by omega), hin, Option.bind_some, nb_rd hG hlt, and_nat _ _ (by omega) (by omega), hc, Option.bind_some, wrap_succ t (by omega)]
      cases s.testBit t
      · rfl
      · by_cases e : pop (nb l t &&& s) % 2 = r
        · rw [if_pos rfl, if_pos ((tmod_par _ _).2 e), decide_eq_true e]
          rfl
        · rw [if_pos rfl, if_neg (fun h => e ((tmod_par _ _).1 h)), decide_eq_false e]
          rfl
    cases e : (!s.testBit t || decide (pop (nb l t &&& s) % 2 = r))
    · rw [Bool.false_and]
      exact now fun k => by rw [step k, e]; rfl
    · rw [Bool.true_and]
      exact Ev.step (fun k => by rw [step k, e]; rfl) ih
theorem impl_Graph_all.ev (l : List Int) (own : Bool) (hG : GoodG l) (s r : Nat) (hs : s < 2 ^ l.length) : Ev (fun k => impl_Graph_all.f k l own (s : Int) (r : Int)) (evenP l s r) := by
  have h := impl_Graph_all.loop l own hG s r hs l.length 0 (by omega) (by omega)
  rw [← List.range_eq_range'] at h
  exact h

/-! impl_IsEvenSet -/
theorem impl_IsEvenSet.ev (l : List Int) (own : Bool) (s : Int) : Ev (fun k => impl_IsEvenSet.f k l own s) (isParR l s 0) := by
  obtain ⟨K, hK⟩ := impl_isSet.ev l own [s]
  have ea : (good l && [s].all (inSet l.length)) = (good l && inSet l.length s) := by simp
  rw [ea] at hK
  unfold isParR boardOk
  cases e : (good l && inSet l.length s)
  · refine ⟨K, fun k hk => ?_⟩
    have h1 : impl_isSet.f k l own [s] = _ := hK k hk
    show impl_IsEvenSet.f k l own s = _
    unfold impl_IsEvenSet.f
    rw [h1, Option.bind_some, e]
    rfl
  · obtain ⟨hG, hs⟩ := boardOk_of (l := l) (s := s) e
    obtain ⟨h0, h1, h2⟩ := inSet_lt hs
    have hc := pow_cast l.length
    obtain ⟨t, rfl⟩ := Int.eq_ofNat_of_zero_le h0
    obtain ⟨K2, hK2⟩ := impl_Graph_all.ev l own hG t 0 (by omega)
    refine ⟨K + K2, fun k hk => ?_⟩
    have c1 : impl_isSet.f k l own [(t : Int)] = _ := hK k (by omega)
    have c2 : impl_Graph_all.f k l own (t : Int) 0 = _ := hK2 k (by omega)
    show impl_IsEvenSet.f k l own (t : Int) = _
    unfold impl_IsEvenSet.f
    rw [c1, Option.bind_some, e, if_pos rfl, c2, Option.bind_some, if_pos rfl, Int.toNat_natCast]

/-! impl_IsOddSet -/
theorem impl_IsOddSet.ev (l : List Int) (own : Bool) (s : Int) : Ev (fun k => impl_IsOddSet.f k l own s) (isParR l s 1) := by
  obtain ⟨K, hK⟩ := impl_isSet.ev l own [s]
  have ea : (good l && [s].all (inSet l.length)) = (good l && inSet l.length s) := by simp
  rw [ea] at hK
  unfold isParR boardOk
  cases e : (good l && inSet l.length s)
  · refine ⟨K, fun k hk => ?_⟩
    have h1 : impl_isSet.f k l own [s] = _ := hK k hk
    show impl_IsOddSet.f k l own s = _
    unfold impl_IsOddSet.f
    rw [h1, Option.bind_some, e]
    rfl
  · obtain ⟨hG, hs⟩ := boardOk_of (l := l) (s := s) e
    obtain ⟨h0, h1, h2⟩ := inSet_lt hs
    have hc := pow_cast l.length
    obtain ⟨t, rfl⟩ := Int.eq_ofNat_of_zero_le h0
    obtain ⟨K2, hK2⟩ := impl_Graph_all.ev l own hG t 1 (by omega)
    refine ⟨K + K2, fun k hk => ?_⟩
    have c1 : impl_isSet.f k l own [(t : Int)] = _ := hK k (by omega)
    have c2 : impl_Graph_all.f k l own (t : Int) 1 = _ := hK2 k (by omega)
    show impl_IsOddSet.f k l own (t : Int) = _
    unfold impl_IsOddSet.f
    rw [c1, Option.bind_some, e, if_pos rfl, c2, Option.bind_some, if_pos rfl, Int.toNat_natCast]

/-! spec_paDegree -/
theorem spec_paDegree.ev (l : List Int) (own : Bool) (hG : GoodG l) (s i : Nat) (hi : i < l.length) (hs : s < 2 ^ l.length) : Ev (fun k => spec_paDegree.f k l own (s : Int) (i : Int)) ((pop (nb l i &&& s) : Nat) : Int) := by
  have h16 : (2 : Nat) ^ l.length ≤ 2 ^ 16 := Nat.pow_le_pow_right (by decide) hG.top
  have hx := hG.sets (rd l (i : Int)) (rd_mem l _ (by omega) (by omega))
  have hrd : rd l (i : Int) = ((nb l i : Nat) : Int) := by unfold nb; omega
  have hn := nb_lt hG hi
  have hand : (nb l i &&& s) < 2 ^ l.length := Nat.lt_of_le_of_lt Nat.and_le_right hs
  obtain ⟨K, hK⟩ := spec_grCount.ev (((nb l i &&& s : Nat)) : Int) (by omega) (by omega)
  refine ⟨K, fun k hk => ?_⟩
  have h1 : spec_grCount.f k (((nb l i &&& s : Nat)) : Int) = _ := hK k hk
  rw [Int.toNat_natCast] at h1
  show spec_paDegree.f k l own (s : Int) (i : Int) = _
  unfold spec_paDegree.f
  rw [if_pos (by omega), if_pos (by omega), hrd, and_nat _ _ (by omega) (by omega), h1, Option.bind_some]

/-! spec_paAll -/
theorem tmod_par2 (p r : Nat) : (Int.tmod (p : Int) 2 = (r : Int)) ↔ p % 2 = r := by
  rw [show Int.tmod (p : Int) 2 = ((p % 2 : Nat) : Int) from rfl]
  omega
theorem spec_paAll.loop (l : List Int) (own : Bool) (hG : GoodG l) (s r : Nat) (hs : s < 2 ^ l.length) : ∀ (d t : Nat), l.length - t = d → t ≤ l.length → Ev (fun k => spec_paAll.l0 k (s : Int) (r : Int) (l.length : Int) (t : Int) l own) ((List.range' t d).all fun i => !s.testBit i || decide (pop (nb l i &&& s) % 2 = r))
  | 0, t, hd, ht => by
    refine now fun k => ?_
    simp only [spec_paAll.l0]
    rw [if_neg (by omega)]
    rfl
  | d + 1, t, hd, ht => by
    have h16 : (2 : Nat) ^ l.length ≤ 2 ^ 16 := Nat.pow_le_pow_right (by decide) hG.top
    have htop := hG.top
    have hlt : t < l.length := by omega
    obtain ⟨K2, hK2⟩ := spec_paAll.loop l own hG s r hs d (t + 1) (by omega) (by omega)
    have hin := spec_grIn.eq (s : Int) (t : Int) (by omega) (by omega) (by omega)
    have hbit : bit (s : Int) (t : Int) = s.testBit t := by unfold bit; simp
    rw [hbit] at hin
    obtain ⟨K, hK⟩ := spec_paDegree.ev l own hG s t hlt hs
    rw [List.range'_succ, List.all_cons]
    refine ⟨K + K2 + 1, fun k hk => ?_⟩
    obtain ⟨k, rfl⟩ : ∃ k', k = k' + 1 := ⟨k - 1, by omega⟩
    have h1 : spec_paDegree.f k l own (s : Int) (t : Int) = _ := hK k (by omega)
    have h2 : spec_paAll.l0 k (s : Int) (r : Int) (l.length : Int) ((t + 1 : Nat) : Int) l own = _ := hK2 k (by omega)
    simp only [spec_paAll.l0]
    rw [if_pos (by omega), hin, Option.bind_some, h1, Option.bind_some, wrap_succ t (by omega), h2]
    cases s.testBit t
    · rfl
    · by_cases e : pop (nb l t &&& s) % 2 = r
      · rw [if_pos rfl, if_pos ((tmod_par2 _ _).2 e), decide_eq_true e]
        rfl
      · rw [if_pos rfl, if_neg (fun h => e ((tmod_par2 _ _).1 h)), decide_eq_false e]
        rfl
theorem spec_paAll.ev (l : List Int) (own : Bool) (hG : GoodG l) (s r : Nat) (hs : s < 2 ^ l.length) : Ev (fun k => spec_paAll.f k l own (s : Int) (r : Int)) (evenP l s r) := by
  have h := spec_paAll.loop l own hG s r hs l.length 0 (by omega) (by omega)
  rw [← List.range_eq_range'] at h
  exact h

/-! laws_hSame -/
theorem laws_hSame.loop (a b : List Int) (hl : a.length = b.length) (h : a.length < 4611686018427387904) (d : Nat) : ∀ i : Nat, a.length - i = d → i ≤ a.length → Ev (fun k => laws_hSame.l0 k a b (a.length : Int) (i : Int)) (decide (a.drop i = b.drop i)) := by
  induction d with
  | zero =>
    intro i hd hi
    refine now fun k => ?_
    simp only [laws_hSame.l0]
    rw [if_neg (by omega), List.drop_eq_nil_of_le (by omega), List.drop_eq_nil_of_le (by omega)]
    rfl
  | succ d ih =>
    intro i hd hi
    have hlt : i < a.length := by omega
    have hltb : i < b.length := by omega
    rw [drop_cons a i hlt, drop_cons b i hltb]
    by_cases e : a[i] = b[i]
    · have := ih (i + 1) (by omega) (by omega)
      refine Ev.step (f := fun k => laws_hSame.l0 k a b (a.length : Int) ((i + 1 : Nat) : Int)) (fun k => ?_) (by rw [show decide (a[i] :: a.drop (i + 1) = b[i] :: b.drop (i + 1)) = decide (a.drop (i + 1) = b.drop (i + 1)) by simp only [List.cons.injEq, e, true_and]]; exact this)
      simp only [laws_hSame.l0]
      rw [if_pos (by omega), if_pos (by omega), if_pos (by omega), if_pos (by omega), rd_get a i hlt, rd_get b i hltb, if_pos e, wrap_succ i (by omega)]
    · refine now fun k => ?_
      simp only [laws_hSame.l0]
      rw [if_pos (by omega), if_pos (by omega), if_pos (by omega), if_pos (by omega), rd_get a i hlt, rd_get b i hltb, if_neg e, show decide (a[i] :: a.drop (i + 1) = b[i] :: b.drop (i + 1)) = false by simp only [List.cons.injEq, e, false_and, decide_false]]
theorem laws_hSame.ev (a b : List Int) (h : a.length < 4611686018427387904) : Ev (fun k => laws_hSame.f k a b) (decide (a = b)) := by
  by_cases hl : a.length = b.length
  · have := laws_hSame.loop a b hl h a.length 0 (by omega) (by omega)
    refine Ev.congr (f := fun k => laws_hSame.l0 k a b (a.length : Int) ((0 : Nat) : Int)) (fun k => ?_) (by simpa using this)
    unfold laws_hSame.f
    rw [if_pos (by omega)]
    rfl
  · refine always fun k => ?_
    unfold laws_hSame.f
    rw [if_neg (by omega)]
    have : ¬ a = b := fun e => hl (by rw [e])
    simp [this]

/-! laws_hHas -/
theorem laws_hHas.loop (l : List Int) (n : Int) (h : l.length < 4611686018427387904) : ∀ (d i : Nat), l.length - i = d → i ≤ l.length → Ev (fun k => laws_hHas.l0 k n l (l.length : Int) (i : Int)) ((l.drop i).contains n)
  | 0, i, hd, hi => by
    refine now fun k => ?_
    simp only [laws_hHas.l0]
    rw [if_neg (by omega), List.drop_eq_nil_of_le (by omega)]
    rfl
  | d + 1, i, hd, hi => by
    have hlt : i < l.length := by omega
    rw [drop_cons l i hlt, List.contains_cons]
    by_cases e : l[i] = n
    · refine now fun k => ?_
      simp only [laws_hHas.l0]
      rw [if_pos (by omega), if_pos (by omega), if_pos (by omega), rd_get l i hlt, if_pos e]
      simp [e]
    · have e2 : (n == l[i]) = false := by simpa using fun h => e h.symm
      refine Ev.step (f := fun k => laws_hHas.l0 k n l (l.length : Int) ((i + 1 : Nat) : Int)) (fun k => ?_) (by rw [e2, Bool.false_or]; exact laws_hHas.loop l n h d (i + 1) (by omega) (by omega))
      simp only [laws_hHas.l0]
      rw [if_pos (by omega), if_pos (by omega), if_pos (by omega), rd_get l i hlt, if_neg e, wrap_succ i (by omega)]
theorem laws_hHas.ev (l : List Int) (n : Int) (h : l.length < 4611686018427387904) : Ev (fun k => laws_hHas.f k l n) (l.contains n) := by
  have h0 := laws_hHas.loop l n h l.length 0 (by omega) (by omega)
  exact Ev.congr (f := fun k => laws_hHas.l0 k n l (l.length : Int) ((0 : Nat) : Int)) (fun k => rfl) (by simpa using h0)

/-! spec_grSet -/
theorem spec_grSet.ev (l : List Int) (own : Bool) (s : Int) (h : l.length < 4611686018427387904) : Ev (fun k => spec_grSet.f k l own s) (good l && inSet l.length s) := by
  obtain ⟨K, hK⟩ := spec_grGood.ev l own h
  refine ⟨K, fun k hk => ?_⟩
  have h1 : spec_grGood.f k l own = _ := hK k hk
  show spec_grSet.f k l own s = _
  unfold spec_grSet.f
  rw [h1, Option.bind_some]
  cases hg : good l
  · rfl
  · have hG := (good_iff l).1 hg
    have := hG.top
    rw [if_pos rfl, whole_eq (by omega) (by omega), spec_l1In.eq, Option.bind_some, Bool.true_and, inSet_eq]

/-! spec_IsEvenSet -/
theorem spec_IsEvenSet.ev (l : List Int) (own : Bool) (s : Int) (h : l.length < 4611686018427387904) : Ev (fun k => spec_IsEvenSet.f k l own s) (isParR l s 0) := by
  obtain ⟨K, hK⟩ := ev_get (spec_grSet.ev l own s h)
  unfold isParR boardOk
  cases e : (good l && inSet l.length s)
  · refine ⟨K, fun k hk => ?_⟩
    have h1 : spec_grSet.f k l own s = _ := hK k hk
    show spec_IsEvenSet.f k l own s = _
    unfold spec_IsEvenSet.f
    rw [h1, Option.bind_some, e]
    rfl
  · obtain ⟨hG, hs⟩ := boardOk_of (l := l) (s := s) e
    obtain ⟨h0, h1, h2⟩ := inSet_lt hs
    have hc := pow_cast l.length
    obtain ⟨t, rfl⟩ := Int.eq_ofNat_of_zero_le h0
    obtain ⟨K2, hK2⟩ := spec_paAll.ev l own hG t 0 (by omega)
    refine ⟨K + K2, fun k hk => ?_⟩
    have c1 : spec_grSet.f k l own (t : Int) = _ := hK k (by omega)
    have c2 : spec_paAll.f k l own (t : Int) 0 = _ := hK2 k (by omega)
    show spec_IsEvenSet.f k l own (t : Int) = _
    unfold spec_IsEvenSet.f
    rw [c1, Option.bind_some, e, if_pos rfl, c2, Option.bind_some, if_pos rfl, Int.toNat_natCast]

/-! spec_IsOddSet -/
theorem spec_IsOddSet.ev (l : List Int) (own : Bool) (s : Int) (h : l.length < 4611686018427387904) : Ev (fun k => spec_IsOddSet.f k l own s) (isParR l s 1) := by
  obtain ⟨K, hK⟩ := ev_get (spec_grSet.ev l own s h)
  unfold isParR boardOk
  cases e : (good l && inSet l.length s)
  · refine ⟨K, fun k hk => ?_⟩
    have h1 : spec_grSet.f k l own s = _ := hK k hk
    show spec_IsOddSet.f k l own s = _
    unfold spec_IsOddSet.f
    rw [h1, Option.bind_some, e]
    rfl
  · obtain ⟨hG, hs⟩ := boardOk_of (l := l) (s := s) e
    obtain ⟨h0, h1, h2⟩ := inSet_lt hs
    have hc := pow_cast l.length
    obtain ⟨t, rfl⟩ := Int.eq_ofNat_of_zero_le h0
    obtain ⟨K2, hK2⟩ := spec_paAll.ev l own hG t 1 (by omega)
    refine ⟨K + K2, fun k hk => ?_⟩
    have c1 : spec_grSet.f k l own (t : Int) = _ := hK k (by omega)
    have c2 : spec_paAll.f k l own (t : Int) 1 = _ := hK2 k (by omega)
    show spec_IsOddSet.f k l own (t : Int) = _
    unfold spec_IsOddSet.f
    rw [c1, Option.bind_some, e, if_pos rfl, c2, Option.bind_some, if_pos rfl, Int.toNat_natCast]
end Go.Proofs.YtlohlngmagpepaaGreat.Pure
