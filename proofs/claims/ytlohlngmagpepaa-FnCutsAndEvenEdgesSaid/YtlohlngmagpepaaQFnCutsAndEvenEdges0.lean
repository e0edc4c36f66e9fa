/- What the functions of FnCutsAndEvenEdges compute, in plain words. -/
import Derived.Test.YtlohlngmagpepaaPFnCutsAndEvenEdgesx
import Derived.Test.YtlohlngmagpepaaM1
import Derived.Test.YtlohlngmagpepaaM2
import Derived.Test.YtlohlngmagpepaaM3
import Derived.Test.YtlohlngmagpepaaM4
import Derived.Test.YtlohlngmagpepaaM5
import Derived.Test.YtlohlngmagpepaaM6
import Derived.Test.YtlohlngmagpepaaM7
import Derived.Test.YtlohlngmagpepaaM8
import Derived.Test.YtlohlngmagpepaaM9
import Derived.Test.YtlohlngmagpepaaM10
import Derived.Test.YtlohlngmagpepaaM12
import Derived.Test.YtlohlngmagpepaaM15
import Derived.Test.YtlohlngmagpepaaM17
import Derived.Test.YtlohlngmagpepaaM20
import Derived.Test.YtlohlngmagpepaaM21
import Derived.Test.YtlohlngmagpepaaM22
import Derived.Test.YtlohlngmagpepaaM23
import Derived.Test.YtlohlngmagpepaaM25
import Derived.Test.YtlohlngmagpepaaM26
import Derived.Test.YtlohlngmagpepaaM27
import Derived.Test.YtlohlngmagpepaaM28
import Derived.Test.YtlohlngmagpepaaM29
import Derived.Test.YtlohlngmagpepaaM30
import Derived.Test.YtlohlngmagpepaaM31
import Derived.Test.YtlohlngmagpepaaM32
import Derived.Test.YtlohlngmagpepaaM34
import Derived.Test.YtlohlngmagpepaaM35
import Derived.Test.YtlohlngmagpepaaM36
import Derived.Test.YtlohlngmagpepaaM37
import Derived.Test.YtlohlngmagpepaaM38
import Derived.Test.YtlohlngmagpepaaM39
import Derived.Test.YtlohlngmagpepaaM40
import Derived.Test.YtlohlngmagpepaaM41
import Derived.Test.YtlohlngmagpepaaM44
namespace Go.Proofs.Ytlohlngmagpepaa.Pure
open Go.RowKit Go.Proofs.Ytlohlngmagpepaa.PFnCutsAndEvenEdges Go.Proofs.YtlohlngmagpepaaW.PrintWords Go.Proofs.YtlohlngmagpepaaW.PrintLast Go.Proofs.YtlohlngmagpepaaW.PrintMore Go.Proofs.YtlohlngmagpepaaM
set_option linter.unusedVariables false
set_option linter.unusedSimpArgs false
theorem bits_OnesCount64.e1 (a : Nat) (h : a < 2 ^ 64) : IntKind.u64.wrap ((Go.bits .and .u64 ((a : Int) / 2) 6148914691236517205) + (Go.bits .and .u64 (a : Int) 6148914691236517205)) = ((sw1 a : Nat) : Int) := by
  have h1 := uand (a / 2) 6148914691236517205 (by omega) (by decide)
  have h2 := uand a 6148914691236517205 h (by decide)
  rw [show ((a / 2 : Nat) : Int) = (a : Int) / 2 by norm_cast] at h1
  have h1' : Go.bits .and .u64 ((a : Int) / 2) 6148914691236517205 = _ := h1
  have h2' : Go.bits .and .u64 (a : Int) 6148914691236517205 = _ := h2
  rw [h1', h2', ← Int.natCast_add, uwrap]
  rfl
theorem bits_OnesCount64.e2 (a : Nat) (h : a < 2 ^ 64) : IntKind.u64.wrap ((Go.bits .and .u64 ((a : Int) / 4) 3689348814741910323) + (Go.bits .and .u64 (a : Int) 3689348814741910323)) = ((sw2 a : Nat) : Int) := by
  have h1 := uand (a / 4) 3689348814741910323 (by omega) (by decide)
  have h2 := uand a 3689348814741910323 h (by decide)
  rw [show ((a / 4 : Nat) : Int) = (a : Int) / 4 by norm_cast] at h1
  have h1' : Go.bits .and .u64 ((a : Int) / 4) 3689348814741910323 = _ := h1
  have h2' : Go.bits .and .u64 (a : Int) 3689348814741910323 = _ := h2
  rw [h1', h2', ← Int.natCast_add, uwrap]
  rfl
theorem bits_OnesCount64.e3 (a : Nat) : Go.bits .and .u64 (IntKind.u64.wrap (((a : Int) / 16) + (a : Int))) 1085102592571150095 = ((sw3 a : Nat) : Int) := by
  rw [show (a : Int) / 16 + (a : Int) = ((a / 16 + a : Nat) : Int) by omega, uwrap]
  exact uand _ 1085102592571150095 (Nat.mod_lt _ (by decide)) (by decide)
theorem bits_OnesCount64.e4 (a : Nat) : IntKind.u64.wrap ((a : Int) + (a : Int) / 256) = ((sw4 a : Nat) : Int) := by
  rw [show (a : Int) + (a : Int) / 256 = ((a + a / 256 : Nat) : Int) by omega, uwrap]
  rfl
theorem bits_OnesCount64.e5 (a : Nat) : IntKind.u64.wrap ((a : Int) + (a : Int) / 65536) = ((sw5 a : Nat) : Int) := by
  rw [show (a : Int) + (a : Int) / 65536 = ((a + a / 65536 : Nat) : Int) by omega, uwrap]
  rfl
theorem bits_OnesCount64.e6 (a : Nat) : IntKind.u64.wrap ((a : Int) + (a : Int) / 4294967296) = ((sw6 a : Nat) : Int) := by
  rw [show (a : Int) + (a : Int) / 4294967296 = ((a + a / 4294967296 : Nat) : Int) by omega, uwrap]
  rfl
theorem bits_OnesCount64.lt (a : Nat) : sw1 a < 2 ^ 64 := Nat.mod_lt _ (by decide)
theorem bits_OnesCount64.low (b : Nat) (h : b < 2 ^ 64) : Go.bits .and .i64 (wrap64 (b : Int)) 127 = ((b &&& 127 : Nat) : Int) := by
  have e1 : ∀ c : Int, BitVec.ofInt 64 (wrap64 c) = BitVec.ofInt 64 c := by
    intro c
    apply BitVec.eq_of_toInt_eq
    rw [BitVec.toInt_ofInt, BitVec.toInt_ofInt]
    unfold wrap64
    rw [Int.bmod_def, Int.bmod_def]
    omega
  have hlt : b &&& 127 < 128 := Nat.lt_of_le_of_lt (Nat.and_le_right) (by decide)
  have e2 : Go.bits .and .i64 (wrap64 (b : Int)) 127 = Go.bits .and .i64 (b : Int) 127 := by
    have := e1 (b : Int)
    simp only [Go.bits, IntKind.bits] at this ⊢
    rw [this]
  rw [e2]
  have ha' : b % 2 ^ IntKind.i64.bits = b := Nat.mod_eq_of_lt h
  have hb' : 127 % 2 ^ IntKind.i64.bits = 127 := rfl
  rw [show (127 : Int) = ((127 : Nat) : Int) from rfl]
  simp only [Go.bits, BitVec.ofInt_natCast, BitVec.toNat_and, BitVec.toNat_ofNat, ha', hb']
  exact wraps_i64 _ (Int.natCast_nonneg _) (by omega)
theorem bits_OnesCount64.lt6 (a : Nat) : sw6 a < 2 ^ 64 := Nat.mod_lt _ (by decide)
theorem bits_OnesCount64.eq (a : Nat) (h : a < 65536) : bits_OnesCount64.f (a : Int) = some ((pop a : Nat) : Int) := by
  have hh : a < 2 ^ 64 := Nat.lt_trans h (by decide)
  unfold bits_OnesCount64.f
  rw [bits_OnesCount64.e1 a hh, bits_OnesCount64.e2 _ (bits_OnesCount64.lt a), bits_OnesCount64.e3, bits_OnesCount64.e4, bits_OnesCount64.e5, bits_OnesCount64.e6, bits_OnesCount64.low (sw6 _) (bits_OnesCount64.lt6 _), ← swar_eq a h]
  rfl
theorem bits_OnesCount.eq (a : Nat) (h : a < 65536) : bits_OnesCount.f (a : Int) = some ((pop a : Nat) : Int) := by
  unfold bits_OnesCount.f
  rw [bits_OnesCount64.eq a h]
  rfl
theorem bits_Len64.tab_rows : ∀ i, i < 256 → bt (⟨#[0, 1, 2, 2, 3, 3, 3, 3, 4, 4, 4, 4, 4, 4, 4, 4, 5, 5, 5, 5, 5, 5, 5, 5, 5, 5, 5, 5, 5, 5, 5, 5, 6, 6, 6, 6, 6, 6, 6, 6, 6, 6, 6, 6, 6, 6, 6, 6, 6, 6, 6, 6, 6, 6, 6, 6, 6, 6, 6, 6, 6, 6, 6, 6, 7, 7, 7, 7, 7, 7, 7, 7, 7, 7, 7, 7, 7, 7, 7, 7, 7, 7, 7, 7, 7, 7, 7, 7, 7, 7, 7, 7, 7, 7, 7, 7, 7, 7, 7, 7, 7, 7, 7, 7, 7, 7, 7, 7, 7, 7, 7, 7, 7, 7, 7, 7, 7, 7, 7, 7, 7, 7, 7, 7, 7, 7, 7, 7, 8, 8, 8, 8, 8, 8, 8, 8, 8, 8, 8, 8, 8, 8, 8, 8, 8, 8, 8, 8, 8, 8, 8, 8, 8, 8, 8, 8, 8, 8, 8, 8, 8, 8, 8, 8, 8, 8, 8, 8, 8, 8, 8, 8, 8, 8, 8, 8, 8, 8, 8, 8, 8, 8, 8, 8, 8, 8, 8, 8, 8, 8, 8, 8, 8, 8, 8, 8, 8, 8, 8, 8, 8, 8, 8, 8, 8, 8, 8, 8, 8, 8, 8, 8, 8, 8, 8, 8, 8, 8, 8, 8, 8, 8, 8, 8, 8, 8, 8, 8, 8, 8, 8, 8, 8, 8, 8, 8, 8, 8, 8, 8, 8, 8, 8, 8, 8, 8, 8, 8, 8, 8, 8, 8, 8, 8, 8, 8]⟩ : ByteArray) ((i : Nat) : Int) = ((blk 8 i : Nat) : Int) := by decide +kernel
theorem bits_Len64.tab (i : Nat) (h : i < 256) : bt (⟨#[0, 1, 2, 2, 3, 3, 3, 3, 4, 4, 4, 4, 4, 4, 4, 4, 5, 5, 5, 5, 5, 5, 5, 5, 5, 5, 5, 5, 5, 5, 5, 5, 6, 6, 6, 6, 6, 6, 6, 6, 6, 6, 6, 6, 6, 6, 6, 6, 6, 6, 6, 6, 6, 6, 6, 6, 6, 6, 6, 6, 6, 6, 6, 6, 7, 7, 7, 7, 7, 7, 7, 7, 7, 7, 7, 7, 7, 7, 7, 7, 7, 7, 7, 7, 7, 7, 7, 7, 7, 7, 7, 7, 7, 7, 7, 7, 7, 7, 7, 7, 7, 7, 7, 7, 7, 7, 7, 7, 7, 7, 7, 7, 7, 7, 7, 7, 7, 7, 7, 7, 7, 7, 7, 7, 7, 7, 7, 7, 8, 8, 8, 8, 8, 8, 8, 8, 8, 8, 8, 8, 8, 8, 8, 8, 8, 8, 8, 8, 8, 8, 8, 8, 8, 8, 8, 8, 8, 8, 8, 8, 8, 8, 8, 8, 8, 8, 8, 8, 8, 8, 8, 8, 8, 8, 8, 8, 8, 8, 8, 8, 8, 8, 8, 8, 8, 8, 8, 8, 8, 8, 8, 8, 8, 8, 8, 8, 8, 8, 8, 8, 8, 8, 8, 8, 8, 8, 8, 8, 8, 8, 8, 8, 8, 8, 8, 8, 8, 8, 8, 8, 8, 8, 8, 8, 8, 8, 8, 8, 8, 8, 8, 8, 8, 8, 8, 8, 8, 8, 8, 8, 8, 8, 8, 8, 8, 8, 8, 8, 8, 8, 8, 8, 8, 8, 8, 8]⟩ : ByteArray) (i : Int) = ((blen i : Nat) : Int) := by rw [bits_Len64.tab_rows i h, blen_blk 8 i h]
def bits_Len64.body (T : ByteArray) (x0 x2 : Int) : Option Int := if x0 ≥ 65536 then (if (x0 / 65536) ≥ 256 then (if 0 ≤ (((x0 / 65536) / 256) % 256) then (if (((x0 / 65536) / 256) % 256) < 256 then (some (wrap64 ((wrap64 ((wrap64 (x2 + 16)) + 8)) + (wrap64 (bt T (((x0 / 65536) / 256) % 256)))))) else (none)) else (none)) else (if 0 ≤ ((x0 / 65536) % 256) then (if ((x0 / 65536) % 256) < 256 then (some (wrap64 ((wrap64 (x2 + 16)) + (wrap64 (bt T ((x0 / 65536) % 256)))))) else (none)) else (none))) else (if x0 ≥ 256 then (if 0 ≤ ((x0 / 256) % 256) then (if ((x0 / 256) % 256) < 256 then (some (wrap64 ((wrap64 (x2 + 8)) + (wrap64 (bt T ((x0 / 256) % 256)))))) else (none)) else (none)) else (if 0 ≤ ((x0) % 256) then (if ((x0) % 256) < 256 then (some (wrap64 (x2 + (wrap64 (bt T ((x0) % 256)))))) else (none)) else (none)))
theorem bits_Len64.steps (T : ByteArray) (tab : ∀ i : Nat, i < 256 → bt T (i : Int) = ((blen i : Nat) : Int)) (n : Nat) (x : Nat) (hn : n ≤ 32) (hx : x < 4294967296) : bits_Len64.body T (x : Int) (n : Int) = some (((n + blen x : Nat) : Int)) := by
  have tb : ∀ (y : Nat), y < 256 → ((y : Int) % 256) = ((y : Nat) : Int) := fun y h => by omega
  have bl : ∀ (y : Nat), y < 256 → blen y ≤ 8 := fun y h => blen_le h
  unfold bits_Len64.body
  by_cases e1 : x ≥ 65536
  · rw [if_pos (by omega)]
    by_cases e2 : x / 65536 ≥ 256
    · have hb := blen_shift 24 x (by rw [show (2 : Nat) ^ 24 = 16777216 from rfl]; omega)
      rw [show (2 : Nat) ^ 24 = 16777216 from rfl] at hb
      have hl := bl (x / 16777216) (by omega)
      have he : ((x : Int) / 65536) / 256 % 256 = ((x / 16777216 : Nat) : Int) := by omega
      rw [if_pos (by omega), if_pos (by omega), if_pos (by omega), he, tab _ (by omega), wrap_id (x := (n : Int) + 16) (by omega) (by omega), wrap_id (x := (n : Int) + 16 + 8) (by omega) (by omega), wrap_id (x := ((blen (x / 16777216) : Nat) : Int)) (by omega) (by omega), wrap_id (by omega) (by omega), hb]
      congr 1
      omega
    · have hb := blen_shift 16 x (by rw [show (2 : Nat) ^ 16 = 65536 from rfl]; omega)
      rw [show (2 : Nat) ^ 16 = 65536 from rfl] at hb
      have hl := bl (x / 65536) (by omega)
      have he : ((x : Int) / 65536) % 256 = ((x / 65536 : Nat) : Int) := by omega
      rw [if_neg (by omega), if_pos (by omega), if_pos (by omega), he, tab _ (by omega), wrap_id (x := (n : Int) + 16) (by omega) (by omega), wrap_id (x := ((blen (x / 65536) : Nat) : Int)) (by omega) (by omega), wrap_id (by omega) (by omega), hb]
      congr 1
      omega
  · rw [if_neg (by omega)]
    by_cases e2 : x ≥ 256
    · have hb := blen_shift 8 x (by rw [show (2 : Nat) ^ 8 = 256 from rfl]; omega)
      rw [show (2 : Nat) ^ 8 = 256 from rfl] at hb
      have hl := bl (x / 256) (by omega)
      have he : ((x : Int) / 256) % 256 = ((x / 256 : Nat) : Int) := by omega
      rw [if_pos (by omega), if_pos (by omega), if_pos (by omega), he, tab _ (by omega), wrap_id (x := (n : Int) + 8) (by omega) (by omega), wrap_id (x := ((blen (x / 256) : Nat) : Int)) (by omega) (by omega), wrap_id (by omega) (by omega), hb]
      congr 1
      omega
    · have hl := bl x (by omega)
      have he : (x : Int) % 256 = (x : Int) := by omega
      rw [if_neg (by omega), if_pos (by omega), if_pos (by omega), he, tab _ (by omega), wrap_id (x := ((blen x : Nat) : Int)) (by omega) (by omega), wrap_id (by omega) (by omega)]
      congr 1
theorem bits_Len64.tail (k n : Nat) (x : Nat) (hn : n ≤ 32) (hx : x < 4294967296) : bits_Len64.j0 (k + 1) (x : Int) (n : Int) = some (((n + blen x : Nat) : Int)) :=
  bits_Len64.steps (⟨#[0, 1, 2, 2, 3, 3, 3, 3, 4, 4, 4, 4, 4, 4, 4, 4, 5, 5, 5, 5, 5, 5, 5, 5, 5, 5, 5, 5, 5, 5, 5, 5, 6, 6, 6, 6, 6, 6, 6, 6, 6, 6, 6, 6, 6, 6, 6, 6, 6, 6, 6, 6, 6, 6, 6, 6, 6, 6, 6, 6, 6, 6, 6, 6, 7, 7, 7, 7, 7, 7, 7, 7, 7, 7, 7, 7, 7, 7, 7, 7, 7, 7, 7, 7, 7, 7, 7, 7, 7, 7, 7, 7, 7, 7, 7, 7, 7, 7, 7, 7, 7, 7, 7, 7, 7, 7, 7, 7, 7, 7, 7, 7, 7, 7, 7, 7, 7, 7, 7, 7, 7, 7, 7, 7, 7, 7, 7, 7, 8, 8, 8, 8, 8, 8, 8, 8, 8, 8, 8, 8, 8, 8, 8, 8, 8, 8, 8, 8, 8, 8, 8, 8, 8, 8, 8, 8, 8, 8, 8, 8, 8, 8, 8, 8, 8, 8, 8, 8, 8, 8, 8, 8, 8, 8, 8, 8, 8, 8, 8, 8, 8, 8, 8, 8, 8, 8, 8, 8, 8, 8, 8, 8, 8, 8, 8, 8, 8, 8, 8, 8, 8, 8, 8, 8, 8, 8, 8, 8, 8, 8, 8, 8, 8, 8, 8, 8, 8, 8, 8, 8, 8, 8, 8, 8, 8, 8, 8, 8, 8, 8, 8, 8, 8, 8, 8, 8, 8, 8, 8, 8, 8, 8, 8, 8, 8, 8, 8, 8, 8, 8, 8, 8, 8, 8, 8, 8]⟩ : ByteArray) bits_Len64.tab n x hn hx
theorem bits_Len64.eq (k : Nat) (x : Nat) (hx : x < 2 ^ 64) : bits_Len64.f (k + 1) (x : Int) = some ((blen x : Nat) : Int) := by
  unfold bits_Len64.f
  by_cases e : x ≥ 4294967296
  · have hb := blen_shift 32 x (by rw [show (2 : Nat) ^ 32 = 4294967296 from rfl]; omega)
    rw [show (2 : Nat) ^ 32 = 4294967296 from rfl] at hb
    have := bits_Len64.tail k 32 (x / 4294967296) (by omega) (by omega)
    rw [if_pos (by omega), show (x : Int) / 4294967296 = ((x / 4294967296 : Nat) : Int) by omega]
    refine this.trans ?_
    rw [hb, Nat.add_comm]
  · have := bits_Len64.tail k 0 x (by omega) (by omega)
    rw [if_neg (by omega)]
    refine this.trans ?_
    rw [Nat.zero_add]
theorem bits_Len.eq (k : Nat) (x : Nat) (hx : x < 2 ^ 64) : bits_Len.f (k + 1) (x : Int) = some ((blen x : Nat) : Int) := by
  unfold bits_Len.f
  rw [bits_Len64.eq k x hx]
  rfl
theorem spec_grAdd.eq (l : List Nat) (own : Bool) (n : Nat) (hn : n ≤ 16) (hl : l.length = n) (hb : ∀ x ∈ l, x < 2 ^ n) (i j : Nat) (hi : i < n) (hj : j < n) : spec_grAdd.f (ints l) own (i : Int) (j : Int) = some (ints (joinL l i j)) := by
  have hp : (2 : Nat) ^ n ≤ 2 ^ 16 := Nat.pow_le_pow_right (by decide) hn
  have hpi : (2 : Nat) ^ i < 2 ^ n := Nat.pow_lt_pow_right (by decide) hi
  have hpj : (2 : Nat) ^ j < 2 ^ n := Nat.pow_lt_pow_right (by decide) hj
  have g1 := getD_lt hb i
  have h1 := set_lt hb i _ (Nat.or_lt_two_pow g1 hpj)
  have g2 := getD_lt h1 j
  have s1 : shl .i64 1 (j : Int) = ((2 ^ j : Nat) : Int) := by rw [shl_one (by omega) (by omega), Int.toNat_natCast]
  have s2 : shl .i64 1 (i : Int) = ((2 ^ i : Nat) : Int) := by rw [shl_one (by omega) (by omega), Int.toNat_natCast]
  unfold spec_grAdd.f
  simp only [Int.toNat_natCast, s1, s2]
  rw [if_pos (by omega), if_pos (by rw [ints_length]; omega), if_pos (by omega), ints_getD l i (by omega), or_nat _ _ (by omega) (by omega), ints_set, Option.bind_some, if_pos (by rw [ints_length]; omega), ints_getD _ j (by simp; omega), or_nat _ _ (by omega) (by omega), ints_set]
  rfl
theorem spec_grPath.loop (n : Nat) (own : Bool) (hn : n ≤ 16) : ∀ (d i : Nat) (l : List Nat), i + d = n - 1 → 1 ≤ n → l.length = n → (∀ x ∈ l, x < 2 ^ n) → Ev (fun k => spec_grPath.l0 k (n : Int) ((i + 1 : Nat) : Int) (ints l) own) (ints (pathGo d i l), own)
  | 0, i, l, hd, h1, hl, hb => by
    refine now fun k => ?_
    simp only [spec_grPath.l0]
    rw [if_neg (by omega)]
    rfl
  | d + 1, i, l, hd, h1, hl, hb => by
    refine Ev.step (f := fun k => spec_grPath.l0 k (n : Int) ((i + 1 + 1 : Nat) : Int) (ints (joinL l i (i + 1))) own) (fun k => ?_) (spec_grPath.loop n own hn d (i + 1) _ (by omega) h1 (by rw [joinL_length]; exact hl) (joinL_lt hb i (i + 1) (by omega) (by omega)))
    simp only [spec_grPath.l0]
    rw [if_pos (by omega), wrap_id (x := ((i + 1 : Nat) : Int) - 1) (by omega) (by omega), show ((i + 1 : Nat) : Int) - 1 = (i : Int) by omega, spec_grAdd.eq l own n hn hl hb i (i + 1) (by omega) (by omega), Option.bind_some, wrap_succ (i + 1) (by omega)]
theorem spec_grPath.ev (n : Nat) (own : Bool) (h1 : 1 ≤ n) (hn : n ≤ 16) : Ev (fun k => spec_grPath.f k (n : Int) own) (ints (pathL n), own) := by
  have h := spec_grPath.loop n own hn (n - 1) 0 (List.replicate n 0) (by omega) h1 (by simp) (zeros_lt n n)
  refine Ev.congr (f := fun k => spec_grPath.l0 k (n : Int) ((0 + 1 : Nat) : Int) (ints (List.replicate n 0)) own) (fun k => ?_) h
  unfold spec_grPath.f
  rw [if_pos (by omega), if_pos (by rw [Int.toNat_natCast]; omega), Int.toNat_natCast]
  unfold ints
  rw [List.map_replicate]
  rfl
theorem spec_grCircle.ev (n : Nat) (own : Bool) (h1 : 3 ≤ n) (hn : n ≤ 16) : Ev (fun k => spec_grCircle.f k (n : Int) own) (ints (circleL n), own) := by
  obtain ⟨K, hK⟩ := spec_grPath.ev n own (by omega) hn
  refine ⟨K, fun k hk => ?_⟩
  have c1 : spec_grPath.f k (n : Int) own = _ := hK k hk
  show spec_grCircle.f k (n : Int) own = _
  unfold spec_grCircle.f
  rw [c1, Option.bind_some, wrap_id (by omega) (by omega), show (n : Int) - 1 = ((n - 1 : Nat) : Int) by omega]
  have h2 := spec_grAdd.eq (pathL n) own n hn (pathL_length n) (pathL_lt (by omega)) 0 (n - 1) (by omega) (by omega)
  show (spec_grAdd.f (ints (pathL n)) own ((0 : Nat) : Int) ((n - 1 : Nat) : Int)).bind _ = _
  rw [h2, Option.bind_some]
  rfl
theorem impl_has.eq (x i : Int) (hx : 0 ≤ x) (hx1 : x < 2 ^ 63) (hi : 0 ≤ i) : impl_has.f x i = some (bit x i) := by unfold impl_has.f; rw [if_pos hi, has_bit hx hx1 hi]
theorem impl_in.eq (x a b : Int) : impl_in.f x a b = some (decide (a ≤ x) && decide (x ≤ b)) := by
  unfold impl_in.f
  by_cases h : a ≤ x
  · rw [if_pos h]; simp [h]
  · rw [if_neg h]; simp [h]
theorem impl_whole.eq (n : Int) (h0 : 0 ≤ n) (h1 : n ≤ 62) : impl_whole.f n = some (2 ^ n.toNat - 1) := by unfold impl_whole.f; rw [if_pos h0, whole_eq h0 h1]
theorem impl_isCount.eq (x : Int) : impl_isCount.f x = some (decide (1 ≤ x) && decide (x ≤ 16)) := by unfold impl_isCount.f; rw [impl_in.eq]; rfl
theorem impl_isGraph.inner (l : List Int) (own : Bool) (hn : l.length ≤ 16) (i : Nat) (hi : i < l.length) (hbi : 0 ≤ l[i] ∧ l[i] < 2 ^ 63) (hb : ∀ j, (h : j < i) → 0 ≤ l[j] ∧ l[j] < 2 ^ 63) (r : Bool) (hr : Ev (fun k => impl_isGraph.l0 k (l.length : Int) l (l.length : Int) ((i + 1 : Nat) : Int) l own) r) (d : Nat) :
    ∀ j : Nat, i - j = d → j ≤ i → Ev (fun k => impl_isGraph.l1 k (l.length : Int) (i : Int) l[i] l (l.length : Int) (i : Int) (i : Int) (j : Int) l own) (((List.range' j (i - j)).all fun j => bit (l.getD i 0) (j : Int) == bit (l.getD j 0) (i : Int)) && r) := by
  induction d with
  | zero =>
    intro j hd hj
    refine Ev.step (f := fun k => impl_isGraph.l0 k (l.length : Int) l (l.length : Int) ((i + 1 : Nat) : Int) l own) (fun k => ?_) (by rw [hd]; simpa using hr)
    simp only [impl_isGraph.l1]
    rw [if_neg (by omega), wrap_succ i (by omega)]
  | succ d ih =>
    intro j hd hj
    have hlt : j < i := by omega
    have hbj := hb j hlt
    rw [hd, List.range'_succ, List.all_cons, Bool.and_assoc]
    have ih' := ih (j + 1) (by omega) (by omega)
    rw [show i - (j + 1) = d by omega] at ih'
    have h1 := impl_has.eq l[i] (j : Int) hbi.1 hbi.2 (by omega)
    have h2 := impl_has.eq l[j] (i : Int) hbj.1 hbj.2 (by omega)
    rw [getD_get l i hi, getD_get l j (by omega)]
    rw [getD_get l i hi] at ih'
    have step : ∀ k, impl_isGraph.l1 (k + 1) (l.length : Int) (i : Int) l[i] l (l.length : Int) (i : Int) (i : Int) (j : Int) l own = if (bit l[i] (j : Int) == bit l[j] (i : Int)) = true then impl_isGraph.l1 k (l.length : Int) (i : Int) l[i] l (l.length : Int) (i : Int) (i : Int) ((j + 1 : Nat) : Int) l own else some false := by
      intro k
      simp only [impl_isGraph.l1]
      rw [if_pos (by omega), h1, Option.bind_some, if_pos (by omega), if_pos (by omega), rd_get l j (by omega), h2, Option.bind_some, wrap_succ j (by omega)]
      cases bit l[i] (j : Int) <;> cases bit l[j] (i : Int) <;> rfl
    cases e : (bit l[i] (j : Int) == bit l[j] (i : Int))
    · rw [Bool.false_and]
      exact now fun k => by rw [step k, e]; rfl
    · rw [Bool.true_and]
      exact Ev.step (fun k => by rw [step k, e]; rfl) ih'
theorem impl_isGraph.outer (l : List Int) (own : Bool) (hn : l.length ≤ 16) (d : Nat) :
    ∀ i : Nat, l.length - i = d → i ≤ l.length → (∀ j, (h : j < i) → (hj : j < l.length) → 0 ≤ l[j] ∧ l[j] < 2 ^ l.length) → Ev (fun k => impl_isGraph.l0 k (l.length : Int) l (l.length : Int) (i : Int) l own) ((List.range' i (l.length - i)).all (okRow l)) := by
  induction d with
  | zero =>
    intro i hd hi _
    refine now fun k => ?_
    simp only [impl_isGraph.l0]
    rw [if_neg (by omega), hd]
    rfl
  | succ d ih =>
    intro i hd hi hb
    have hlt : i < l.length := by omega
    have h16 := pow16 hn
    rw [hd, List.range'_succ, List.all_cons]
    have hr : okRow l i = (inSet l.length l[i] && (!(bit l[i] (i : Int)) && (List.range' 0 i).all fun j => bit (l.getD i 0) (j : Int) == bit (l.getD j 0) (i : Int))) := by
      unfold okRow
      rw [getD_get l i hlt]
    have hin : impl_in.f l[i] 0 (2 ^ (l.length : Int).toNat - 1) = some (inSet l.length l[i]) := by
      rw [impl_in.eq, Int.toNat_natCast]
      unfold inSet
      congr 2
      rw [Bool.eq_iff_iff]
      simp only [decide_eq_true_eq]
      omega
    rw [hr]
    cases e1 : inSet l.length l[i]
    · rw [Bool.false_and, Bool.false_and]
      refine ⟨2, fun k hk => ?_⟩
      obtain ⟨m, rfl⟩ : ∃ m, k = m + 2 := ⟨k - 2, by omega⟩
      show impl_isGraph.l0 (m + 2) (l.length : Int) l (l.length : Int) (i : Int) l own = _
      simp only [impl_isGraph.l0]
      rw [if_pos (by omega), if_pos (by omega), if_pos (by omega), rd_get l i hlt, impl_whole.eq _ (by omega) (by omega), Option.bind_some, hin, Option.bind_some, e1, if_neg (by decide)]
      simp only [impl_isGraph.j1, if_true]
    · have hbi : 0 ≤ l[i] ∧ l[i] < 2 ^ l.length := by simpa [inSet] using e1
      have hbi' : 0 ≤ l[i] ∧ l[i] < 2 ^ 63 := by omega
      rw [Bool.true_and]
      have head : ∀ k, impl_isGraph.l0 (k + 2) (l.length : Int) l (l.length : Int) (i : Int) l own = if bit l[i] (i : Int) = true then some false else impl_isGraph.l1 k (l.length : Int) (i : Int) l[i] l (l.length : Int) (i : Int) (i : Int) ((0 : Nat) : Int) l own := by
        intro k
        simp only [impl_isGraph.l0]
        rw [if_pos (by omega), if_pos (by omega), if_pos (by omega), rd_get l i hlt, impl_whole.eq _ (by omega) (by omega), Option.bind_some, hin, Option.bind_some, e1, if_pos rfl, impl_has.eq l[i] (i : Int) hbi'.1 hbi'.2 (by omega), Option.bind_some]
        simp only [impl_isGraph.j1]
        rfl
      cases e2 : bit l[i] (i : Int)
      · rw [Bool.not_false, Bool.true_and]
        have ih' := ih (i + 1) (by omega) (by omega) (fun j h hj => by
          rcases Nat.lt_succ_iff_lt_or_eq.1 h with h | h
          · exact hb j h hj
          · subst h; exact hbi)
        rw [show l.length - (i + 1) = d by omega] at ih'
        obtain ⟨K, hK⟩ := impl_isGraph.inner l own hn i hlt hbi' (fun j h => by have := hb j h (by omega); omega) _ ih' i 0 (by omega) (by omega)
        rw [Nat.sub_zero] at hK
        refine ⟨K + 2, fun k hk => ?_⟩
        obtain ⟨m, rfl⟩ : ∃ m, k = m + 2 := ⟨k - 2, by omega⟩
        show impl_isGraph.l0 (m + 2) (l.length : Int) l (l.length : Int) (i : Int) l own = _
        rw [head m, e2, if_neg (by decide)]
        exact hK m (by omega)
      · rw [Bool.not_true, Bool.false_and, Bool.false_and]
        refine ⟨2, fun k hk => ?_⟩
        obtain ⟨m, rfl⟩ : ∃ m, k = m + 2 := ⟨k - 2, by omega⟩
        show impl_isGraph.l0 (m + 2) (l.length : Int) l (l.length : Int) (i : Int) l own = _
        rw [head m, e2, if_pos rfl]
theorem impl_isGraph.ev (l : List Int) (own : Bool) : Ev (fun k => impl_isGraph.f k l own) (good l) := by
  rw [good_rows]
  by_cases hn : 1 ≤ l.length ∧ l.length ≤ 16
  · have e1 : impl_isCount.f (l.length : Int) = some true := by rw [impl_isCount.eq, decide_eq_true (by omega), decide_eq_true (by omega)]; rfl
    rw [show (decide (1 ≤ l.length ∧ l.length ≤ 16)) = true from decide_eq_true hn, Bool.true_and]
    refine Ev.congr (f := fun k => impl_isGraph.l0 k (l.length : Int) l (l.length : Int) ((0 : Nat) : Int) l own) (fun k => ?_) (by simpa using impl_isGraph.outer l own hn.2 l.length 0 (by omega) (by omega) (fun j h => absurd h (by omega)))
    unfold impl_isGraph.f
    rw [e1, Option.bind_some, if_pos rfl]
    rfl
  · have e1 : impl_isCount.f (l.length : Int) = some false := by
      rw [impl_isCount.eq]
      congr 1
      rw [Bool.and_eq_false_iff, decide_eq_false_iff_not, decide_eq_false_iff_not]
      omega
    rw [show (decide (1 ≤ l.length ∧ l.length ≤ 16)) = false from decide_eq_false hn, Bool.false_and]
    refine always fun k => ?_
    unfold impl_isGraph.f
    rw [e1, Option.bind_some, if_neg (by decide)]
theorem impl_isSet.p_eq (n : Nat) (h : n ≤ 16) (s : Int) : impl_isSet.p n s = !(inSet n s) := by
  unfold impl_isSet.p
  rw [whole_eq (by omega) (by omega), impl_in.eq, Int.toNat_natCast, ← inSet_eq' n s]
  rfl
theorem impl_isSet.ev (l : List Int) (own : Bool) (ss : List Int) : Ev (fun k => impl_isSet.f k l own ss) (good l && ss.all (inSet l.length)) := by
  obtain ⟨K, hK⟩ := impl_isGraph.ev l own
  refine ⟨K, fun k hk => ?_⟩
  have h1 : impl_isGraph.f k l own = _ := hK k hk
  show impl_isSet.f k l own ss = _
  unfold impl_isSet.f
  rw [h1, Option.bind_some]
  cases hg : good l
  · rfl
  · have := ((good_iff l).1 hg).top
    rw [if_pos rfl, Bool.true_and, show impl_isSet.p l.length = (fun s => !(inSet l.length s)) from funext (impl_isSet.p_eq l.length this), List.not_any_eq_all_not]
    simp
theorem impl_Graph_edges.row (l : List Int) (own : Bool) (hG : GoodG l) (i : Nat) (hi : i < l.length) (r : List (List Int)) (n : Int) (d : Nat) :
    ∀ (j : Nat) (o : List (List Int)), l.length - j = d → j ≤ l.length → o.length + d ≤ 1000 → Ev (fun k => impl_Graph_edges.l0 k (o ++ rowEdges l i j d) l n (wrap64 ((i : Int) + 1)) l own) r →
      Ev (fun k => impl_Graph_edges.l1 k o (i : Int) (rd l (i : Int)) (j : Int) l n (i : Int) l own) r := by
  have h16 := pow16 hG.top
  have ht := hG.top
  have hm := hG.sets (rd l (i : Int)) (rd_mem l _ (by omega) (by omega))
  induction d with
  | zero =>
    intro j o hd hj ho h
    rw [show rowEdges l i j 0 = [] from rfl, List.append_nil] at h
    refine Ev.step (f := fun k => impl_Graph_edges.l0 k o l n (wrap64 ((i : Int) + 1)) l own) (fun k => ?_) h
    simp only [impl_Graph_edges.l1]
    rw [if_neg (by omega)]
  | succ d ih =>
    intro j o hd hj ho h
    have hin := impl_has.eq (rd l (i : Int)) (j : Int) hm.1 (by omega) (by omega)
    unfold rowEdges at h
    cases e : bit (rd l (i : Int)) (j : Int)
    · rw [e, if_neg (by decide)] at h
      refine Ev.step (f := fun k => impl_Graph_edges.l1 k o (i : Int) (rd l (i : Int)) ((j + 1 : Nat) : Int) l n (i : Int) l own) (fun k => ?_) (ih (j + 1) o (by omega) (by omega) (by omega) h)
      simp only [impl_Graph_edges.l1]
      rw [if_pos (by omega), hin, Option.bind_some, e, if_neg (by decide), wrap_succ j (by omega)]
    · rw [e, if_pos rfl] at h
      refine Ev.step (f := fun k => impl_Graph_edges.l1 k (o ++ [[(i : Int), (j : Int)]]) (i : Int) (rd l (i : Int)) ((j + 1 : Nat) : Int) l n (i : Int) l own) (fun k => ?_) (ih (j + 1) (o ++ [[(i : Int), (j : Int)]]) (by omega) (by omega) (by simp; omega) (by rw [List.append_assoc]; exact h))
      simp only [impl_Graph_edges.l1]
      rw [if_pos (by omega), hin, Option.bind_some, e, if_pos rfl, if_pos (by omega), wrap_succ j (by omega)]
theorem impl_Graph_edges.loop (l : List Int) (own : Bool) (hG : GoodG l) (d : Nat) :
    ∀ (i : Nat) (o : List (List Int)), l.length - i = d → i ≤ l.length → o.length + d * 20 ≤ 900 → Ev (fun k => impl_Graph_edges.l0 k o l (l.length : Int) (i : Int) l own) (o ++ edgesFrom l i d) := by
  have h16 := hG.top
  induction d with
  | zero =>
    intro i o hd hi ho
    refine now fun k => ?_
    simp only [impl_Graph_edges.l0]
    rw [if_neg (by omega), show edgesFrom l i 0 = [] from rfl, List.append_nil]
  | succ d ih =>
    intro i o hd hi ho
    have hl := rowEdges_length l i d (i + 1)
    have h := ih (i + 1) (o ++ rowEdges l i (i + 1) d) (by omega) (by omega) (by rw [List.length_append]; omega)
    rw [← wrap_succ i (by omega), List.append_assoc] at h
    have h2 := impl_Graph_edges.row l own hG i (by omega) (o ++ (rowEdges l i (i + 1) d ++ edgesFrom l (i + 1) d)) (l.length : Int) d (i + 1) o (by omega) (by omega) (by omega) h
    rw [show edgesFrom l i (d + 1) = rowEdges l i (i + 1) d ++ edgesFrom l (i + 1) d from rfl]
    refine Ev.step (f := fun k => impl_Graph_edges.l1 k o (i : Int) (rd l (i : Int)) ((i + 1 : Nat) : Int) l (l.length : Int) (i : Int) l own) (fun k => ?_) h2
    simp only [impl_Graph_edges.l0]
    rw [if_pos (by omega), if_pos (by omega), if_pos (by omega), wrap_succ i (by omega)]
theorem impl_Graph_edges.ev (l : List Int) (own : Bool) (hG : GoodG l) : Ev (fun k => impl_Graph_edges.f k l own) (edgesOf l) := by
  have h16 := hG.top
  have := impl_Graph_edges.loop l own hG l.length 0 [] (by omega) (by omega) (by simp; omega)
  rw [List.nil_append] at this
  exact this
theorem spec_grIn.eq (x i : Int) (hx : 0 ≤ x) (hx1 : x < 2 ^ 63) (hi : 0 ≤ i) : spec_grIn.f x i = some (bit x i) := by unfold spec_grIn.f; rw [if_pos hi, in_bit hx hx1 hi]
theorem spec_l1In.eq (x a b : Int) : spec_l1In.f x a b = some (decide (a ≤ x) && decide (x ≤ b)) := by
  unfold spec_l1In.f
  by_cases h : a ≤ x
  · rw [if_pos (by omega)]; simp [h]
  · rw [if_neg (by omega)]; simp [h]
theorem spec_grSize.eq (x : Int) : spec_grSize.f x = some (decide (1 ≤ x) && decide (x ≤ 16)) := by unfold spec_grSize.f; rw [spec_l1In.eq]; rfl
theorem spec_l1All.loop (l : List Int) (a b : Int) (h : l.length < 4611686018427387904) (d : Nat) : ∀ i : Nat, l.length - i = d → i ≤ l.length → Ev (fun k => spec_l1All.l0 k a b l (l.length : Int) (i : Int)) ((l.drop i).all fun x => decide (a ≤ x) && decide (x ≤ b)) := by
  induction d with
  | zero =>
    intro i hd hi
    refine now fun k => ?_
    simp only [spec_l1All.l0]
    rw [if_neg (by omega), List.drop_eq_nil_of_le (by omega)]
    rfl
  | succ d ih =>
    intro i hd hi
    have hlt : i < l.length := by omega
    rw [drop_cons l i hlt, List.all_cons]
    by_cases e : (decide (a ≤ l[i]) && decide (l[i] ≤ b)) = true
    · refine Ev.step (f := fun k => spec_l1All.l0 k a b l (l.length : Int) ((i + 1 : Nat) : Int)) (fun k => ?_) (by rw [e, Bool.true_and]; exact ih (i + 1) (by omega) (by omega))
      simp only [spec_l1All.l0]
      rw [if_pos (by omega), if_pos (by omega), if_pos (by omega), rd_get l i hlt, spec_l1In.eq, e, wrap_succ i (by omega)]
      rfl
    · refine now fun k => ?_
      simp only [spec_l1All.l0]
      replace e := Bool.eq_false_iff.mpr e
      rw [if_pos (by omega), if_pos (by omega), if_pos (by omega), rd_get l i hlt, spec_l1In.eq, e]
      rfl
theorem spec_l1All.ev (l : List Int) (a b : Int) (h : l.length < 4611686018427387904) : Ev (fun k => spec_l1All.f k l a b) (l.all fun x => decide (a ≤ x) && decide (x ≤ b)) :=
  spec_l1All.loop l a b h l.length 0 (by omega) (by omega)
theorem spec_grGood.inner (l : List Int) (own : Bool) (hn : l.length ≤ 16) (hg : ∀ x ∈ l, 0 ≤ x ∧ x < 2 ^ l.length) (i : Nat) (hi : i < l.length) (r : Bool) (hr : Ev (fun k => spec_grGood.l0 k l (l.length : Int) ((i + 1 : Nat) : Int) l own) r) (d : Nat) :
    ∀ j : Nat, l.length - j = d → j ≤ l.length → Ev (fun k => spec_grGood.l1 k (i : Int) l[i] l (l.length : Int) (i : Int) (l.length : Int) (j : Int) l own) (((List.range' j (l.length - j)).all fun j => okPair l i j) && r) := by
  induction d with
  | zero =>
    intro j hd hj
    refine Ev.step (f := fun k => spec_grGood.l0 k l (l.length : Int) ((i + 1 : Nat) : Int) l own) (fun k => ?_) (by rw [hd]; simpa using hr)
    simp only [spec_grGood.l1]
    rw [if_neg (by omega), wrap_succ i (by omega)]
  | succ d ih =>
    intro j hd hj
    have hlt : j < l.length := by omega
    have hbi := set_bounds l hn hg i hi
    have hbj := set_bounds l hn hg j hlt
    rw [hd, List.range'_succ, List.all_cons, Bool.and_assoc]
    have ih' := ih (j + 1) (by omega) (by omega)
    rw [show l.length - (j + 1) = d by omega] at ih'
    have hb := spec_grIn.eq l[i] (j : Int) hbi.1 hbi.2 (by omega)
    have hb2 := spec_grIn.eq l[j] (i : Int) hbj.1 hbj.2 (by omega)
    have step : ∀ k, spec_grGood.l1 (k + 1) (i : Int) l[i] l (l.length : Int) (i : Int) (l.length : Int) (j : Int) l own = if okPair l i j = true then spec_grGood.l1 k (i : Int) l[i] l (l.length : Int) (i : Int) (l.length : Int) ((j + 1 : Nat) : Int) l own else some false := by
      intro k
      simp only [spec_grGood.l1]
      rw [if_pos (by omega), hb, Option.bind_some, okPair_eq l i j hi hlt]
      cases e1 : bit l[i] (j : Int)
      · simp only [Bool.false_eq_true, if_false, Bool.not_false, Bool.true_or, if_true]
        rw [wrap_succ j (by omega)]
      · simp only [if_true, Bool.not_true, Bool.false_or]
        by_cases e2 : i = j
        · subst e2
          simp
        · rw [if_neg (by omega), if_pos (by omega), if_pos (by omega), rd_get l j hlt, hb2, Option.bind_some, wrap_succ j (by omega)]
          simp [e2]
    cases e : okPair l i j
    · rw [Bool.false_and]
      exact now fun k => by rw [step k, e]; rfl
    · rw [Bool.true_and]
      exact Ev.step (fun k => by rw [step k, e]; rfl) ih'
theorem spec_grGood.outer (l : List Int) (own : Bool) (hn : l.length ≤ 16) (hg : ∀ x ∈ l, 0 ≤ x ∧ x < 2 ^ l.length) (d : Nat) :
    ∀ i : Nat, l.length - i = d → i ≤ l.length → Ev (fun k => spec_grGood.l0 k l (l.length : Int) (i : Int) l own) ((List.range' i (l.length - i)).all fun i => (List.range' 0 l.length).all fun j => okPair l i j) := by
  induction d with
  | zero =>
    intro i hd hi
    refine now fun k => ?_
    simp only [spec_grGood.l0]
    rw [if_neg (by omega), hd]
    rfl
  | succ d ih =>
    intro i hd hi
    have hlt : i < l.length := by omega
    rw [hd, List.range'_succ, List.all_cons]
    have ih' := ih (i + 1) (by omega) (by omega)
    rw [show l.length - (i + 1) = d by omega] at ih'
    refine Ev.step (f := fun k => spec_grGood.l1 k (i : Int) l[i] l (l.length : Int) (i : Int) (l.length : Int) ((0 : Nat) : Int) l own) (fun k => ?_) (spec_grGood.inner l own hn hg i hlt _ ih' l.length 0 (by omega) (by omega))
    simp only [spec_grGood.l0]
    rw [if_pos (by omega), if_pos (by omega), if_pos (by omega), rd_get l i hlt]
    rfl
theorem spec_grGood.ev (l : List Int) (own : Bool) (h : l.length < 4611686018427387904) : Ev (fun k => spec_grGood.f k l own) (good l) := by
  rw [good_eq]
  by_cases hn : 1 ≤ l.length ∧ l.length ≤ 16
  · have e1 : spec_grSize.f (l.length : Int) = some true := by rw [spec_grSize.eq, decide_eq_true (by omega), decide_eq_true (by omega)]; rfl
    have e2 := spec_l1All.ev l 0 (wrap64 ((shl .i64 1 (l.length : Int)) - 1)) h
    rw [whole_eq (by omega) (by omega)] at e2
    rw [show (decide (1 ≤ l.length ∧ l.length ≤ 16)) = true from decide_eq_true hn, Bool.true_and]
    have e3 : (l.all fun x => decide (0 ≤ x) && decide (x ≤ 2 ^ (l.length : Int).toNat - 1)) = l.all (inSet l.length) := by
      congr 1
      funext x
      unfold inSet
      rw [Int.toNat_natCast]
      congr 1
      rw [Bool.eq_iff_iff]
      simp only [decide_eq_true_eq]
      omega
    rw [e3] at e2
    obtain ⟨K, hK⟩ := e2
    by_cases hg : l.all (inSet l.length) = true
    · rw [hg, Bool.true_and]
      have hg' := inSet_all l hg
      obtain ⟨K2, hK2⟩ := spec_grGood.outer l own hn.2 hg' l.length 0 (by omega) (by omega)
      refine ⟨K + K2 + 1, fun k hk => ?_⟩
      obtain ⟨m, rfl⟩ : ∃ m, k = m + 1 := ⟨k - 1, by omega⟩
      have h1 : spec_l1All.f (m + 1) l 0 (2 ^ (l.length : Int).toNat - 1) = _ := hK (m + 1) (by omega)
      have h2 : spec_grGood.l0 m l (l.length : Int) ((0 : Nat) : Int) l own = _ := hK2 m (by omega)
      show spec_grGood.f (m + 1) l own = _
      unfold spec_grGood.f
      rw [e1, Option.bind_some, if_pos rfl, whole_eq (by omega) (by omega), h1, Option.bind_some, hg]
      simp only [spec_grGood.j0, Bool.not_true, Bool.false_eq_true, if_false]
      rw [Nat.sub_zero] at h2
      exact h2
    · replace hg := Bool.eq_false_iff.mpr hg
      rw [hg, Bool.false_and]
      refine ⟨K + 1, fun k hk => ?_⟩
      obtain ⟨m, rfl⟩ : ∃ m, k = m + 1 := ⟨k - 1, by omega⟩
      have h1 : spec_l1All.f (m + 1) l 0 (2 ^ (l.length : Int).toNat - 1) = _ := hK (m + 1) (by omega)
      show spec_grGood.f (m + 1) l own = _
      unfold spec_grGood.f
      rw [e1, Option.bind_some, if_pos rfl, whole_eq (by omega) (by omega), h1, Option.bind_some, hg]
      simp only [spec_grGood.j0, Bool.not_false, if_true]
  · have e1 : spec_grSize.f (l.length : Int) = some false := by
      rw [spec_grSize.eq]
      congr 1
      rw [Bool.and_eq_false_iff, decide_eq_false_iff_not, decide_eq_false_iff_not]
      omega
    rw [show (decide (1 ≤ l.length ∧ l.length ≤ 16)) = false from decide_eq_false hn, Bool.false_and]
    refine now fun k => ?_
    unfold spec_grGood.f
    rw [e1, Option.bind_some, if_neg (by decide)]
    simp only [spec_grGood.j0, if_true]
theorem spec_grSet.ev (l : List Int) (own : Bool) (s : Int) (h : l.length < 4611686018427387904) : Ev (fun k => spec_grSet.f k l own s) (good l && inSet l.length s) := by
  obtain ⟨K, hK⟩ := spec_grGood.ev l own h
  refine ⟨K, fun k hk => ?_⟩
  have h1 : spec_grGood.f k l own = _ := hK k hk
  show spec_grSet.f k l own s = _
  unfold spec_grSet.f
  rw [h1, Option.bind_some]
  cases hg : good l
  · rfl
  · have hG := (good_iff l).1 hg
    have := hG.top
    rw [if_pos rfl, whole_eq (by omega) (by omega), spec_l1In.eq, Option.bind_some, Bool.true_and, inSet_eq]
theorem spec_grEdges.row (l : List Int) (own : Bool) (hG : GoodG l) (i : Nat) (hi : i < l.length) (r : List (List Int)) (n : Int) (d : Nat) :
    ∀ (j : Nat) (o : List (List Int)), l.length - j = d → j ≤ l.length → o.length + d ≤ 1000 → Ev (fun k => spec_grEdges.l0 k (o ++ rowEdges l i j d) l n (wrap64 ((i : Int) + 1)) l own) r →
      Ev (fun k => spec_grEdges.l1 k o (i : Int) (rd l (i : Int)) (j : Int) l n (i : Int) l own) r := by
  have h16 := pow16 hG.top
  have ht := hG.top
  have hm := hG.sets (rd l (i : Int)) (rd_mem l _ (by omega) (by omega))
  induction d with
  | zero =>
    intro j o hd hj ho h
    rw [show rowEdges l i j 0 = [] from rfl, List.append_nil] at h
    refine Ev.step (f := fun k => spec_grEdges.l0 k o l n (wrap64 ((i : Int) + 1)) l own) (fun k => ?_) h
    simp only [spec_grEdges.l1]
    rw [if_neg (by omega)]
  | succ d ih =>
    intro j o hd hj ho h
    have hin := spec_grIn.eq (rd l (i : Int)) (j : Int) hm.1 (by omega) (by omega)
    unfold rowEdges at h
    cases e : bit (rd l (i : Int)) (j : Int)
    · rw [e, if_neg (by decide)] at h
      refine Ev.step (f := fun k => spec_grEdges.l1 k o (i : Int) (rd l (i : Int)) ((j + 1 : Nat) : Int) l n (i : Int) l own) (fun k => ?_) (ih (j + 1) o (by omega) (by omega) (by omega) h)
      simp only [spec_grEdges.l1]
      rw [if_pos (by omega), hin, Option.bind_some, e, if_neg (by decide), wrap_succ j (by omega)]
    · rw [e, if_pos rfl] at h
      refine Ev.step (f := fun k => spec_grEdges.l1 k (o ++ [[(i : Int), (j : Int)]]) (i : Int) (rd l (i : Int)) ((j + 1 : Nat) : Int) l n (i : Int) l own) (fun k => ?_) (ih (j + 1) (o ++ [[(i : Int), (j : Int)]]) (by omega) (by omega) (by simp; omega) (by rw [List.append_assoc]; exact h))
      simp only [spec_grEdges.l1]
      rw [if_pos (by omega), hin, Option.bind_some, e, if_pos rfl, if_pos (by omega), wrap_succ j (by omega)]
theorem spec_grEdges.loop (l : List Int) (own : Bool) (hG : GoodG l) (d : Nat) :
    ∀ (i : Nat) (o : List (List Int)), l.length - i = d → i ≤ l.length → o.length + d * 20 ≤ 900 → Ev (fun k => spec_grEdges.l0 k o l (l.length : Int) (i : Int) l own) (o ++ edgesFrom l i d) := by
  have h16 := hG.top
  induction d with
  | zero =>
    intro i o hd hi ho
    refine now fun k => ?_
    simp only [spec_grEdges.l0]
    rw [if_neg (by omega), show edgesFrom l i 0 = [] from rfl, List.append_nil]
  | succ d ih =>
    intro i o hd hi ho
    have hl := rowEdges_length l i d (i + 1)
    have h := ih (i + 1) (o ++ rowEdges l i (i + 1) d) (by omega) (by omega) (by rw [List.length_append]; omega)
    rw [← wrap_succ i (by omega), List.append_assoc] at h
    have h2 := spec_grEdges.row l own hG i (by omega) (o ++ (rowEdges l i (i + 1) d ++ edgesFrom l (i + 1) d)) (l.length : Int) d (i + 1) o (by omega) (by omega) (by omega) h
    rw [show edgesFrom l i (d + 1) = rowEdges l i (i + 1) d ++ edgesFrom l (i + 1) d from rfl]
    refine Ev.step (f := fun k => spec_grEdges.l1 k o (i : Int) (rd l (i : Int)) ((i + 1 : Nat) : Int) l (l.length : Int) (i : Int) l own) (fun k => ?_) h2
    simp only [spec_grEdges.l0]
    rw [if_pos (by omega), if_pos (by omega), if_pos (by omega), wrap_succ i (by omega)]
theorem spec_grEdges.ev (l : List Int) (own : Bool) (hG : GoodG l) : Ev (fun k => spec_grEdges.f k l own) (edgesOf l) := by
  have h16 := hG.top
  have := spec_grEdges.loop l own hG l.length 0 [] (by omega) (by omega) (by simp; omega)
  rw [List.nil_append] at this
  exact this
theorem spec_paCut.loop (l : List Int) (hG : GoodG l) (s : Nat) (hs : s < 2 ^ l.length) : ∀ (d t : Nat), (edgesOf l).length - t = d → t ≤ (edgesOf l).length → Ev (fun k => spec_paCut.l0 k (s : Int) (((edgesOf l).take t).filter (endsP (cutP s))) (edgesOf l) ((edgesOf l).length : Int) (t : Int)) (cutOf l s)
  | 0, t, hd, ht => by
    refine now fun k => ?_
    simp only [spec_paCut.l0]
    rw [if_neg (by omega), List.take_of_length_le (by omega)]
    rfl
  | d + 1, t, hd, ht => by
    have h16 : (2 : Nat) ^ l.length ≤ 2 ^ 16 := Nat.pow_le_pow_right (by decide) hG.top
    have htop := hG.top
    have hel := edges_len hG
    have hlt : t < (edgesOf l).length := by omega
    have ih := spec_paCut.loop l hG s hs d (t + 1) (by omega) (by omega)
    obtain ⟨x, y, hxy, _, hlt2, hy, _⟩ := edgesFrom_pairs l l.length 0 _ (List.getElem_mem (l := edgesOf l) hlt)
    have hxy : (edgesOf l)[t] = [(x : Int), (y : Int)] := hxy
    have hrd : rd_L2 (edgesOf l) (t : Int) = [(x : Int), (y : Int)] := by
      unfold rd_L2
      rw [Int.toNat_natCast, List.getD_eq_getElem?_getD, List.getElem?_eq_getElem hlt, Option.getD_some, hxy]
    have i1 := spec_grIn.eq (s : Int) (x : Int) (by omega) (by omega) (by omega)
    have i2 := spec_grIn.eq (s : Int) (y : Int) (by omega) (by omega) (by omega)
    have hbit : ∀ z : Nat, bit (s : Int) (z : Int) = s.testBit z := fun z => by unfold bit; simp
    rw [hbit] at i1 i2
    have l0 : (0 : Int) < (([(x : Int), (y : Int)] : List Int).length : Int) := by simp
    have l1 : (1 : Int) < (([(x : Int), (y : Int)] : List Int).length : Int) := by simp
    have r0 : rd [(x : Int), (y : Int)] 0 = (x : Int) := rfl
    have r1 : rd [(x : Int), (y : Int)] 1 = (y : Int) := rfl
    have hfl : (((edgesOf l).take t).filter (endsP (cutP s))).length < 5864062014805 := by
      have h1 := List.length_filter_le (endsP (cutP s)) ((edgesOf l).take t)
      have h2 := List.length_take_le t (edgesOf l)
      omega
    have hts : ((edgesOf l).take (t + 1)).filter (endsP (cutP s)) = ((edgesOf l).take t).filter (endsP (cutP s)) ++ (if cutP s x y = true then [[(x : Int), (y : Int)]] else []) := by
      rw [List.take_succ_eq_append_getElem hlt, List.filter_append, hxy, List.filter_cons, List.filter_nil, ends_pair]
    refine Ev.step (f := fun k => spec_paCut.l0 k (s : Int) (((edgesOf l).take (t + 1)).filter (endsP (cutP s))) (edgesOf l) ((edgesOf l).length : Int) ((t + 1 : Nat) : Int)) (fun k => ?_) ih
    simp only [spec_paCut.l0]
    rw [if_pos (by omega), if_pos (by omega), if_pos (by omega), hrd, if_pos l0, r0, i1, Option.bind_some, if_pos l1, r1, i2, Option.bind_some, wrap_succ t (by omega), if_pos hfl, hts]
    unfold cutP
    cases s.testBit x != s.testBit y
    · rw [if_neg (by decide), if_neg (by decide), List.append_nil]
    · rw [if_pos rfl, if_pos rfl]
theorem spec_paCut.ev (l : List Int) (own : Bool) (hG : GoodG l) (s : Nat) (hs : s < 2 ^ l.length) : Ev (fun k => spec_paCut.f k l own (s : Int)) (cutOf l s) := by
  obtain ⟨K1, hK1⟩ := spec_grEdges.ev l own hG
  obtain ⟨K2, hK2⟩ := spec_paCut.loop l hG s hs (edgesOf l).length 0 (by omega) (by omega)
  refine ⟨K1 + K2, fun k hk => ?_⟩
  have c2 : spec_grEdges.f k l own = _ := hK1 k (by omega)
  have c3 : spec_paCut.l0 k (s : Int) [] (edgesOf l) ((edgesOf l).length : Int) 0 = _ := hK2 k (by omega)
  show spec_paCut.f k l own (s : Int) = _
  unfold spec_paCut.f
  rw [c2, Option.bind_some, c3]
theorem spec_CutOf.ev (l : List Int) (own : Bool) (s : Int) (h : l.length < 4611686018427387904) : Ev (fun k => spec_CutOf.f k l own s) (cutR l s) := by
  obtain ⟨K, hK⟩ := ev_get (spec_grSet.ev l own s h)
  unfold cutR boardOk
  cases e : (good l && inSet l.length s)
  · refine ⟨K, fun k hk => ?_⟩
    have h1 : spec_grSet.f k l own s = _ := hK k hk
    show spec_CutOf.f k l own s = _
    unfold spec_CutOf.f
    rw [h1, Option.bind_some, e]
    rfl
  · obtain ⟨hG, hs⟩ := boardOk_of (l := l) (s := s) e
    obtain ⟨h0, h1, h2⟩ := inSet_lt hs
    have hc := pow_cast l.length
    obtain ⟨t, rfl⟩ := Int.eq_ofNat_of_zero_le h0
    obtain ⟨K2, hK2⟩ := spec_paCut.ev l own hG t (by omega)
    refine ⟨K + K2, fun k hk => ?_⟩
    have c1 : spec_grSet.f k l own (t : Int) = _ := hK k (by omega)
    have c2 : spec_paCut.f k l own (t : Int) = _ := hK2 k (by omega)
    show spec_CutOf.f k l own (t : Int) = _
    unfold spec_CutOf.f
    rw [c1, Option.bind_some, e, if_pos rfl, c2, Option.bind_some, if_pos rfl, Int.toNat_natCast]
theorem laws_hSame.loop (a b : List Int) (hl : a.length = b.length) (h : a.length < 4611686018427387904) (d : Nat) : ∀ i : Nat, a.length - i = d → i ≤ a.length → Ev (fun k => laws_hSame.l0 k a b (a.length : Int) (i : Int)) (decide (a.drop i = b.drop i)) := by
  induction d with
  | zero =>
    intro i hd hi
    refine now fun k => ?_
    simp only [laws_hSame.l0]
    rw [if_neg (by omega), List.drop_eq_nil_of_le (by omega), List.drop_eq_nil_of_le (by omega)]
    rfl
  | succ d ih =>
    intro i hd hi
    have hlt : i < a.length := by omega
    have hltb : i < b.length := by omega
    rw [drop_cons a i hlt, drop_cons b i hltb]
    by_cases e : a[i] = b[i]
    · have := ih (i + 1) (by omega) (by omega)
      refine Ev.step (f := fun k => laws_hSame.l0 k a b (a.length : Int) ((i + 1 : Nat) : Int)) (fun k => ?_) (by rw [show decide (a[i] :: a.drop (i + 1) = b[i] :: b.drop (i + 1)) = decide (a.drop (i + 1) = b.drop (i + 1)) by simp only [List.cons.injEq, e, true_and]]; exact this)
      simp only [laws_hSame.l0]
      rw [if_pos (by omega), if_pos (by omega), if_pos (by omega), if_pos (by omega), rd_get a i hlt, rd_get b i hltb, if_pos e, wrap_succ i (by omega)]
    · refine now fun k => ?_
      simp only [laws_hSame.l0]
      rw [if_pos (by omega), if_pos (by omega), if_pos (by omega), if_pos (by omega), rd_get a i hlt, rd_get b i hltb, if_neg e, show decide (a[i] :: a.drop (i + 1) = b[i] :: b.drop (i + 1)) = false by simp only [List.cons.injEq, e, false_and, decide_false]]
theorem laws_hSame.ev (a b : List Int) (h : a.length < 4611686018427387904) : Ev (fun k => laws_hSame.f k a b) (decide (a = b)) := by
  by_cases hl : a.length = b.length
  · have := laws_hSame.loop a b hl h a.length 0 (by omega) (by omega)
    refine Ev.congr (f := fun k => laws_hSame.l0 k a b (a.length : Int) ((0 : Nat) : Int)) (fun k => ?_) (by simpa using this)
    unfold laws_hSame.f
    rw [if_pos (by omega)]
    rfl
  · refine always fun k => ?_
    unfold laws_hSame.f
    rw [if_neg (by omega)]
    have : ¬ a = b := fun e => hl (by rw [e])
    simp [this]
theorem laws_hRows.loop (a b : List (List Int)) (hl : a.length = b.length) (h : a.length < 4611686018427387904) (hr : ∀ e ∈ a, e.length < 4611686018427387904) : ∀ (d t : Nat), a.length - t = d → t ≤ a.length → a.take t = b.take t → Ev (fun k => laws_hRows.l0 k a b (a.length : Int) (t : Int)) (decide (a = b))
  | 0, t, hd, ht, he => by
    refine now fun k => ?_
    simp only [laws_hRows.l0]
    rw [List.take_of_length_le (by omega), List.take_of_length_le (by omega)] at he
    rw [if_neg (by omega), decide_eq_true he]
  | d + 1, t, hd, ht, he => by
    have hlt : t < a.length := by omega
    have hlt2 : t < b.length := by omega
    have r1 : rd_L2 a (t : Int) = a[t] := by
      unfold rd_L2
      rw [Int.toNat_natCast, List.getD_eq_getElem?_getD, List.getElem?_eq_getElem hlt, Option.getD_some]
    have r2 : rd_L2 b (t : Int) = b[t] := by
      unfold rd_L2
      rw [Int.toNat_natCast, List.getD_eq_getElem?_getD, List.getElem?_eq_getElem hlt2, Option.getD_some]
    obtain ⟨K, hK⟩ := ev_get (laws_hSame.ev a[t] b[t] (hr _ (List.getElem_mem hlt)))
    by_cases e : a[t] = b[t]
    · obtain ⟨K2, hK2⟩ := laws_hRows.loop a b hl h hr d (t + 1) (by omega) (by omega) (by rw [List.take_succ_eq_append_getElem hlt, List.take_succ_eq_append_getElem hlt2, he, e])
      refine ⟨K + K2 + 1, fun k hk => ?_⟩
      obtain ⟨k, rfl⟩ : ∃ k', k = k' + 1 := ⟨k - 1, by omega⟩
      have h1 : laws_hSame.f k a[t] b[t] = _ := hK k (by omega)
      have h2 : laws_hRows.l0 k a b (a.length : Int) ((t + 1 : Nat) : Int) = _ := hK2 k (by omega)
      simp only [laws_hRows.l0]
      rw [if_pos (by omega), if_pos (by omega), if_pos (by omega), if_pos (by omega), r1, r2, h1, Option.bind_some, decide_eq_true e, if_pos rfl, wrap_succ t (by omega), h2]
    · refine ⟨K + 1, fun k hk => ?_⟩
      obtain ⟨k, rfl⟩ : ∃ k', k = k' + 1 := ⟨k - 1, by omega⟩
      have h1 : laws_hSame.f k a[t] b[t] = _ := hK k (by omega)
      have hne : a ≠ b := fun hab => by subst hab; exact e rfl
      simp only [laws_hRows.l0]
      rw [if_pos (by omega), if_pos (by omega), if_pos (by omega), if_pos (by omega), r1, r2, h1, Option.bind_some, decide_eq_false e, if_neg (by decide), decide_eq_false hne]
theorem laws_hRows.ev (a b : List (List Int)) (h : a.length < 4611686018427387904) (hr : ∀ e ∈ a, e.length < 4611686018427387904) : Ev (fun k => laws_hRows.f k a b) (decide (a = b)) := by
  by_cases hl : a.length = b.length
  · obtain ⟨K, hK⟩ := laws_hRows.loop a b hl h hr a.length 0 (by omega) (by omega) rfl
    refine ⟨K, fun k hk => ?_⟩
    have h1 : laws_hRows.l0 k a b (a.length : Int) 0 = _ := hK k hk
    show laws_hRows.f k a b = _
    unfold laws_hRows.f
    rw [if_pos (by omega), h1]
  · refine now fun k => ?_
    show laws_hRows.f _ a b = _
    unfold laws_hRows.f
    rw [if_neg (by omega), decide_eq_false (fun e => hl (by rw [e]))]
theorem impl_EdgesOf.ev (l : List Int) (own : Bool) : Ev (fun k => impl_EdgesOf.f k l own) (edgesR l) := by
  obtain ⟨K, hK⟩ := impl_isGraph.ev l own
  unfold edgesR
  cases e : good l
  · refine ⟨K, fun k hk => ?_⟩
    have h1 : impl_isGraph.f k l own = _ := hK k hk
    show impl_EdgesOf.f k l own = _
    unfold impl_EdgesOf.f
    rw [h1, Option.bind_some, e]
    rfl
  · obtain ⟨K2, hK2⟩ := impl_Graph_edges.ev l own ((good_iff l).1 e)
    refine ⟨K + K2, fun k hk => ?_⟩
    have h1 : impl_isGraph.f k l own = _ := hK k (by omega)
    have h2 : impl_Graph_edges.f k l own = _ := hK2 k (by omega)
    show impl_EdgesOf.f k l own = _
    unfold impl_EdgesOf.f
    rw [h1, Option.bind_some, e, if_pos rfl, h2, Option.bind_some, if_pos rfl]
theorem impl_count.eq (x : Int) (h0 : 0 ≤ x) (h1 : x < 65536) : impl_count.f x = some ((pop x.toNat : Nat) : Int) := by
  obtain ⟨n, rfl⟩ : ∃ n : Nat, x = n := ⟨x.toNat, by omega⟩
  unfold impl_count.f
  rw [uwrap_id n (by omega), bits_OnesCount.eq n (by omega), Int.toNat_natCast]
  rfl
theorem impl_DegreesWithin.loop (l : List Int) (hG : GoodG l) (s : Nat) (hs : s < 2 ^ l.length) : ∀ (d t : Nat), l.length - t = d → t ≤ l.length → Ev (fun k => impl_DegreesWithin.l0 k (s : Int) (ints (degP l s t)) l (l.length : Int) (t : Int)) (ints (degP l s l.length), true)
  | 0, t, hd, ht => by
    have e : t = l.length := by omega
    subst e
    refine now fun k => ?_
    simp only [impl_DegreesWithin.l0]
    rw [if_neg (by omega)]
  | d + 1, t, hd, ht => by
    have h16 : (2 : Nat) ^ l.length ≤ 2 ^ 16 := Nat.pow_le_pow_right (by decide) hG.top
    have htop := hG.top
    have hlt : t < l.length := by omega
    have ih := impl_DegreesWithin.loop l hG s hs d (t + 1) (by omega) (by omega)
    have hn := nb_lt hG hlt
    have hx := hG.sets (rd l (t : Int)) (rd_mem l _ (by omega) (by omega))
    have hrd : rd l (t : Int) = ((nb l t : Nat) : Int) := by unfold nb; omega
    have hin := impl_has.eq (s : Int) (t : Int) (by omega) (by omega) (by omega)
    have hbit : bit (s : Int) (t : Int) = s.testBit t := by unfold bit; simp
    rw [hbit] at hin
    have hand : (nb l t &&& s) < 2 ^ l.length := Nat.lt_of_le_of_lt Nat.and_le_right hs
    have hc := impl_count.eq (((nb l t &&& s : Nat)) : Int) (by omega) (by omega)
    rw [Int.toNat_natCast] at hc
    have hlen := degP_len l s t
    refine Ev.step (f := fun k => impl_DegreesWithin.l0 k (s : Int) (ints (degP l s (t + 1))) l (l.length : Int) ((t + 1 : Nat) : Int)) (fun k => ?_) ih
    simp only [impl_DegreesWithin.l0]
    rw [if_pos (by omega), if_pos (by omega), if_pos (by omega), hin, Option.bind_some, hrd, and_nat _ _ (by omega) (by omega), hc, Option.bind_some, wrap_succ t (by omega), if_pos (by rw [ints_length]; omega : (ints (degP l s t)).length < 17592186044416)]
    rw [show degP l s (t + 1) = if s.testBit t = true then degP l s t ++ [pop (nb l t &&& s)] else degP l s t from rfl]
    cases s.testBit t
    · rfl
    · rw [if_pos rfl, if_pos rfl, ints_append]
      rfl
theorem impl_DegreesWithin.ev (l : List Int) (own : Bool) (s : Int) : Ev (fun k => impl_DegreesWithin.f k l own s) (degR l s) := by
  obtain ⟨K, hK⟩ := impl_isSet.ev l own [s]
  have ea : (good l && [s].all (inSet l.length)) = (good l && inSet l.length s) := by simp
  rw [ea] at hK
  unfold degR boardOk
  cases e : (good l && inSet l.length s)
  · refine ⟨K, fun k hk => ?_⟩
    have h1 : impl_isSet.f k l own [s] = _ := hK k hk
    show impl_DegreesWithin.f k l own s = _
    unfold impl_DegreesWithin.f
    rw [h1, Option.bind_some, e]
    rfl
  · obtain ⟨hG, hs⟩ := boardOk_of (l := l) (s := s) e
    obtain ⟨h0, h1, h2⟩ := inSet_lt hs
    have hc := pow_cast l.length
    obtain ⟨t, rfl⟩ := Int.eq_ofNat_of_zero_le h0
    obtain ⟨K2, hK2⟩ := impl_DegreesWithin.loop l hG t (by omega) l.length 0 (by omega) (by omega)
    refine ⟨K + K2, fun k hk => ?_⟩
    have c1 : impl_isSet.f k l own [(t : Int)] = _ := hK k (by omega)
    have c2 : impl_DegreesWithin.l0 k (t : Int) [] l (l.length : Int) 0 = _ := hK2 k (by omega)
    show impl_DegreesWithin.f k l own (t : Int) = _
    unfold impl_DegreesWithin.f
    rw [c1, Option.bind_some, e, if_pos rfl, c2, if_pos rfl, Int.toNat_natCast]
theorem impl_DegreesOf.loop (l : List Int) (hG : GoodG l) : ∀ (d t : Nat), l.length - t = d → t ≤ l.length → Ev (fun k => impl_DegreesOf.l0 k (ints ((List.range t).map fun i => pop (nb l i))) l (l.length : Int) (t : Int)) (ints ((List.range l.length).map fun i => pop (nb l i)), true)
  | 0, t, hd, ht => by
    have e : t = l.length := by omega
    subst e
    refine now fun k => ?_
    simp only [impl_DegreesOf.l0]
    rw [if_neg (by omega)]
  | d + 1, t, hd, ht => by
    have h16 : (2 : Nat) ^ l.length ≤ 2 ^ 16 := Nat.pow_le_pow_right (by decide) hG.top
    have htop := hG.top
    have hlt : t < l.length := by omega
    have ih := impl_DegreesOf.loop l hG d (t + 1) (by omega) (by omega)
    have hn := nb_lt hG hlt
    have hx := hG.sets (rd l (t : Int)) (rd_mem l _ (by omega) (by omega))
    have hrd : rd l (t : Int) = ((nb l t : Nat) : Int) := by unfold nb; omega
    have hc := impl_count.eq ((nb l t : Nat) : Int) (by omega) (by omega)
    rw [Int.toNat_natCast] at hc
    refine Ev.step (f := fun k => impl_DegreesOf.l0 k (ints ((List.range (t + 1)).map fun i => pop (nb l i))) l (l.length : Int) ((t + 1 : Nat) : Int)) (fun k => ?_) ih
    simp only [impl_DegreesOf.l0]
    rw [if_pos (by omega), if_pos (by omega), if_pos (by omega), hrd, hc, Option.bind_some, wrap_succ t (by omega), if_pos (by rw [ints_length, List.length_map, List.length_range]; omega), List.range_succ, List.map_append, ints_append]
    rfl
theorem impl_DegreesOf.ev (l : List Int) (own : Bool) : Ev (fun k => impl_DegreesOf.f k l own) (degreesR l) := by
  obtain ⟨K, hK⟩ := impl_isGraph.ev l own
  unfold degreesR
  cases e : good l
  · refine ⟨K, fun k hk => ?_⟩
    have h1 : impl_isGraph.f k l own = _ := hK k hk
    show impl_DegreesOf.f k l own = _
    unfold impl_DegreesOf.f
    rw [h1, Option.bind_some, e]
    rfl
  · obtain ⟨K2, hK2⟩ := impl_DegreesOf.loop l ((good_iff l).1 e) l.length 0 (by omega) (by omega)
    refine ⟨K + K2, fun k hk => ?_⟩
    have h1 : impl_isGraph.f k l own = _ := hK k (by omega)
    have h2 : impl_DegreesOf.l0 k [] l (l.length : Int) 0 = _ := hK2 k (by omega)
    show impl_DegreesOf.f k l own = _
    unfold impl_DegreesOf.f
    rw [h1, Option.bind_some, e, if_pos rfl, h2, if_pos rfl]
theorem laws_hSum.loop (l : List Nat) (h : l.length < 4611686018427387904) : ∀ (d i c : Nat), l.length - i = d → i ≤ l.length → c + (l.drop i).sum < 4611686018427387904 → Ev (fun k => laws_hSum.l0 k (c : Int) (ints l) (l.length : Int) (i : Int)) ((c + (l.drop i).sum : Nat) : Int)
  | 0, i, c, hd, hi, hs => by
    refine now fun k => ?_
    simp only [laws_hSum.l0]
    rw [if_neg (by omega), List.drop_eq_nil_of_le (by omega)]
    simp
  | d + 1, i, c, hd, hi, hs => by
    have hlt : i < l.length := by omega
    rw [drop_cons l i hlt, List.sum_cons] at hs ⊢
    have ih := laws_hSum.loop l h d (i + 1) (c + l[i]) (by omega) (by omega) (by omega)
    refine Ev.step (f := fun k => laws_hSum.l0 k ((c + l[i] : Nat) : Int) (ints l) (l.length : Int) ((i + 1 : Nat) : Int)) (fun k => ?_) (by rw [← Nat.add_assoc]; exact ih)
    simp only [laws_hSum.l0]
    rw [if_pos (by omega), if_pos (by omega), if_pos (by rw [ints_length]; omega), ints_get l i hlt, wrap_succ i (by omega), wrap_id (by omega) (by omega)]
    rfl
theorem laws_hSum.ev (l : List Nat) (h : l.length < 4611686018427387904) (hs : l.sum < 4611686018427387904) : Ev (fun k => laws_hSum.f k (ints l)) (l.sum : Int) := by
  have h0 := laws_hSum.loop l h l.length 0 0 (by omega) (by omega) (by simpa using hs)
  refine Ev.congr (f := fun k => laws_hSum.l0 k ((0 : Nat) : Int) (ints l) (l.length : Int) ((0 : Nat) : Int)) (fun k => ?_) (by simpa using h0)
  unfold laws_hSum.f
  rw [ints_length]
  rfl
theorem impl_hasButton.p_eq (n : Nat) (h : n ≤ 16) (s : Int) : impl_hasButton.p n s = !(isBtn n s) := by
  unfold impl_hasButton.p
  rw [wrap_id (by omega) (by omega), impl_in.eq]
  rfl
theorem impl_hasButton.ev (l : List Int) (own : Bool) (ss : List Int) : Ev (fun k => impl_hasButton.f k l own ss) (good l && ss.all (isBtn l.length)) := by
  obtain ⟨K, hK⟩ := impl_isGraph.ev l own
  refine ⟨K, fun k hk => ?_⟩
  have h1 : impl_isGraph.f k l own = _ := hK k hk
  show impl_hasButton.f k l own ss = _
  unfold impl_hasButton.f
  rw [h1, Option.bind_some]
  cases hg : good l
  · rfl
  · have := ((good_iff l).1 hg).top
    rw [if_pos rfl, Bool.true_and, show impl_hasButton.p l.length = (fun s => !(isBtn l.length s)) from funext (impl_hasButton.p_eq l.length this), List.not_any_eq_all_not]
    simp
theorem spec_paEven.loop (E : List (List Int)) (hE : ∀ e ∈ E, ∃ x y : Nat, e = [(x : Int), (y : Int)] ∧ x < 16 ∧ y < 16) (hl : E.length ≤ 1000) : ∀ (d t : Nat), E.length - t = d → t ≤ E.length → Ev (fun k => spec_paEven.l0 k ((endsX (E.take t) : Nat) : Int) E (E.length : Int) (t : Int)) (endsX E == 0)
  | 0, t, hd, ht => by
    refine now fun k => ?_
    simp only [spec_paEven.l0]
    rw [if_neg (by omega), List.take_of_length_le (by omega)]
    congr 1
    rw [Bool.eq_iff_iff, beq_iff_eq, beq_iff_eq]
    omega
  | d + 1, t, hd, ht => by
    have hlt : t < E.length := by omega
    have ih := spec_paEven.loop E hE hl d (t + 1) (by omega) (by omega)
    obtain ⟨x, y, hxy, hx, hy⟩ := hE _ (List.getElem_mem hlt)
    have hrd : rd_L2 E (t : Int) = [(x : Int), (y : Int)] := by
      unfold rd_L2
      rw [Int.toNat_natCast, List.getD_eq_getElem?_getD, List.getElem?_eq_getElem hlt, Option.getD_some, hxy]
    have l0 : (0 : Int) < (([(x : Int), (y : Int)] : List Int).length : Int) := by simp
    have l1 : (1 : Int) < (([(x : Int), (y : Int)] : List Int).length : Int) := by simp
    have r0 : rd [(x : Int), (y : Int)] 0 = (x : Int) := rfl
    have r1 : rd [(x : Int), (y : Int)] 1 = (y : Int) := rfl
    have hb : endsX (E.take t) < 2 ^ 16 := endsX_lt _ fun e he => by
      obtain ⟨a, b, rfl, ha, hb⟩ := hE e (List.mem_of_mem_take he)
      exact ⟨ha, hb⟩
    have p1 : (2 : Nat) ^ x < 2 ^ 16 := Nat.pow_lt_pow_right (by decide) hx
    have p2 : (2 : Nat) ^ y < 2 ^ 16 := Nat.pow_lt_pow_right (by decide) hy
    have p3 : 2 ^ x ||| 2 ^ y < 2 ^ 16 := Nat.or_lt_two_pow p1 p2
    have hsn : endsX (E.take (t + 1)) = endsX (E.take t) ^^^ (2 ^ x ||| 2 ^ y) := by
      rw [List.take_succ_eq_append_getElem hlt, endsX_snoc, hxy]
      rfl
    refine Ev.step (f := fun k => spec_paEven.l0 k ((endsX (E.take (t + 1)) : Nat) : Int) E (E.length : Int) ((t + 1 : Nat) : Int)) (fun k => ?_) ih
    simp only [spec_paEven.l0]
    rw [if_pos (by omega), if_pos (by omega), if_pos (by omega), hrd, if_pos l0, r0, r1, if_pos (by omega), if_pos l1, if_pos (by omega), shl_one (by omega) (by omega), shl_one (by omega) (by omega), Int.toNat_natCast, Int.toNat_natCast, or_nat _ _ (by omega) (by omega), xor_nat _ _ (by omega) (by omega), wrap_succ t (by omega), hsn]
theorem spec_paEven.ev (l : List Int) (own : Bool) (E : List (List Int)) (hE : ∀ e ∈ E, ∃ x y : Nat, e = [(x : Int), (y : Int)] ∧ x < 16 ∧ y < 16) (hl : E.length ≤ 1000) : Ev (fun k => spec_paEven.f k l own E) (endsX E == 0) := spec_paEven.loop E hE hl E.length 0 (by omega) (by omega)
theorem impl_top.eq (k : Nat) (x : Nat) (hx : x < 2 ^ 63) : impl_top.f (k + 1) (x : Int) = some (pdeg x) := by
  have e : IntKind.u64.wrap (x : Int) = (x : Int) := by
    show (x : Int) % _ = _
    exact Int.emod_eq_of_lt (by omega) (by show (x : Int) < 18446744073709551616; omega)
  have hb : blen x ≤ 63 := blen_le hx
  unfold impl_top.f
  rw [e, bits_Len.eq k x (by omega), Option.bind_some, wrap_id (by omega) (by omega)]
  rfl
end Go.Proofs.Ytlohlngmagpepaa.Pure
