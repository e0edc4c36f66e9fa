/- What the functions of FnOddDominating compute, in plain words. -/
import Derived.Test.YtlioggjncgfioaaPFnOddDominatingx
import Derived.Test.YtlioggjncgfioaaM1
import Derived.Test.YtlioggjncgfioaaM2
import Derived.Test.YtlioggjncgfioaaM3
import Derived.Test.YtlioggjncgfioaaM4
import Derived.Test.YtlioggjncgfioaaM5
import Derived.Test.YtlioggjncgfioaaM6
import Derived.Test.YtlioggjncgfioaaM7
import Derived.Test.YtlioggjncgfioaaM8
import Derived.Test.YtlioggjncgfioaaM9
import Derived.Test.YtlioggjncgfioaaM10
import Derived.Test.YtlioggjncgfioaaM12
import Derived.Test.YtlioggjncgfioaaM15
import Derived.Test.YtlioggjncgfioaaM17
import Derived.Test.YtlioggjncgfioaaM20
import Derived.Test.YtlioggjncgfioaaM21
import Derived.Test.YtlioggjncgfioaaM22
import Derived.Test.YtlioggjncgfioaaM23
import Derived.Test.YtlioggjncgfioaaM25
import Derived.Test.YtlioggjncgfioaaM26
import Derived.Test.YtlioggjncgfioaaM27
import Derived.Test.YtlioggjncgfioaaM28
import Derived.Test.YtlioggjncgfioaaM29
import Derived.Test.YtlioggjncgfioaaM30
import Derived.Test.YtlioggjncgfioaaM31
import Derived.Test.YtlioggjncgfioaaM34
import Derived.Test.YtlioggjncgfioaaM35
import Derived.Test.YtlioggjncgfioaaM36
import Derived.Test.YtlioggjncgfioaaM37
import Derived.Test.YtlioggjncgfioaaM38
namespace Go.Proofs.Ytlioggjncgfioaa.Pure
open Go.RowKit Go.Proofs.Ytlioggjncgfioaa.PFnOddDominating Go.Proofs.YtlioggjncgfioaaW.PrintWords Go.Proofs.YtlioggjncgfioaaW.PrintLast Go.Proofs.YtlioggjncgfioaaW.PrintMore Go.Proofs.YtlioggjncgfioaaM
set_option linter.unusedVariables false
set_option linter.unusedSimpArgs false
/-! bits_Len64 -/
theorem bits_Len64.tab_rows : ∀ i, i < 256 → bt (⟨#[0, 1, 2, 2, 3, 3, 3, 3, 4, 4, 4, 4, 4, 4, 4, 4, 5, 5, 5, 5, 5, 5, 5, 5, 5, 5, 5, 5, 5, 5, 5, 5, 6, 6, 6, 6, 6, 6, 6, 6, 6, 6, 6, 6, 6, 6, 6, 6, 6, 6, 6, 6, 6, 6, 6, 6, 6, 6, 6, 6, 6, 6, 6, 6, 7, 7, 7, 7, 7, 7, 7, 7, 7, 7, 7, 7, 7, 7, 7, 7, 7, 7, 7, 7, 7, 7, 7, 7, 7, 7, 7, 7, 7, 7, 7, 7, 7, 7, 7, 7, 7, 7, 7, 7, 7, 7, 7, 7, 7, 7, 7, 7, 7, 7, 7, 7, 7, 7, 7, 7, 7, 7, 7, 7, 7, 7, 7, 7, 8, 8, 8, 8, 8, 8, 8, 8, 8, 8, 8, 8, 8, 8, 8, 8, 8, 8, 8, 8, 8, 8, 8, 8, 8, 8, 8, 8, 8, 8, 8, 8, 8, 8, 8, 8, 8, 8, 8, 8, 8, 8, 8, 8, 8, 8, 8, 8, 8, 8, 8, 8, 8, 8, 8, 8, 8, 8, 8, 8, 8, 8, 8, 8, 8, 8, 8, 8, 8, 8, 8, 8, 8, 8, 8, 8, 8, 8, 8, 8, 8, 8, 8, 8, 8, 8, 8, 8, 8, 8, 8, 8, 8, 8, 8, 8, 8, 8, 8, 8, 8, 8, 8, 8, 8, 8, 8, 8, 8, 8, 8, 8, 8, 8, 8, 8, 8, 8, 8, 8, 8, 8, 8, 8, 8, 8, 8, 8]⟩ : ByteArray) ((i : Nat) : Int) = ((blk 8 i : Nat) : Int) := by decide +kernel
theorem bits_Len64.tab (i : Nat) (h : i < 256) : bt (⟨#[0, 1, 2, 2, 3, 3, 3, 3, 4, 4, 4, 4, 4, 4, 4, 4, 5, 5, 5, 5, 5, 5, 5, 5, 5, 5, 5, 5, 5, 5, 5, 5, 6, 6, 6, 6, 6, 6, 6, 6, 6, 6, 6, 6, 6, 6, 6, 6, 6, 6, 6, 6, 6, 6, 6, 6, 6, 6, 6, 6, 6, 6, 6, 6, 7, 7, 7, 7, 7, 7, 7, 7, 7, 7, 7, 7, 7, 7, 7, 7, 7, 7, 7, 7, 7, 7, 7, 7, 7, 7, 7, 7, 7, 7, 7, 7, 7, 7, 7, 7, 7, 7, 7, 7, 7, 7, 7, 7, 7, 7, 7, 7, 7, 7, 7, 7, 7, 7, 7, 7, 7, 7, 7, 7, 7, 7, 7, 7, 8, 8, 8, 8, 8, 8, 8, 8, 8, 8, 8, 8, 8, 8, 8, 8, 8, 8, 8, 8, 8, 8, 8, 8, 8, 8, 8, 8, 8, 8, 8, 8, 8, 8, 8, 8, 8, 8, 8, 8, 8, 8, 8, 8, 8, 8, 8, 8, 8, 8, 8, 8, 8, 8, 8, 8, 8, 8, 8, 8, 8, 8, 8, 8, 8, 8, 8, 8, 8, 8, 8, 8, 8, 8, 8, 8, 8, 8, 8, 8, 8, 8, 8, 8, 8, 8, 8, 8, 8, 8, 8, 8, 8, 8, 8, 8, 8, 8, 8, 8, 8, 8, 8, 8, 8, 8, 8, 8, 8, 8, 8, 8, 8, 8, 8, 8, 8, 8, 8, 8, 8, 8, 8, 8, 8, 8, 8, 8]⟩ : ByteArray) (i : Int) = ((blen i : Nat) : Int) := by rw [bits_Len64.tab_rows i h, blen_blk 8 i h]
/-- The steps behind the first test, with a table. -/
def bits_Len64.body (T : ByteArray) (x0 x2 : Int) : Option Int := if x0 ≥ 65536 then (if (x0 / 65536) ≥ 256 then (if 0 ≤ (((x0 / 65536) / 256) % 256) then (if (((x0 / 65536) / 256) % 256) < 256 then (some (wrap64 ((wrap64 ((wrap64 (x2 + 16)) + 8)) + (wrap64 (bt T (((x0 / 65536) / 256) % 256)))))) else (none)) else (none)) else (if 0 ≤ ((x0 / 65536) % 256) then (if ((x0 / 65536) % 256) < 256 then (some (wrap64 ((wrap64 (x2 + 16)) + (wrap64 (bt T ((x0 / 65536) % 256)))))) else (none)) else (none))) else (if x0 ≥ 256 then (if 0 ≤ ((x0 / 256) % 256) then (if ((x0 / 256) % 256) < 256 then (some (wrap64 ((wrap64 (x2 + 8)) + (wrap64 (bt T ((x0 / 256) % 256)))))) else (none)) else (none)) else (if 0 ≤ ((x0) % 256) then (if ((x0) % 256) < 256 then (some (wrap64 (x2 + (wrap64 (bt T ((x0) % 256)))))) else (none)) else (none)))
theorem bits_Len64.steps (T : ByteArray) (tab : ∀ i : Nat, i < 256 → bt T (i : Int) = ((blen i : Nat) : Int)) (n : Nat) (x : Nat) (hn : n ≤ 32) (hx : x < 4294967296) : bits_Len64.body T (x : Int) (n : Int) = some (((n + blen x : Nat) : Int)) := by
  have tb : ∀ (y : Nat), y < 256 → ((y : Int) % 256) = ((y : Nat) : Int) := fun y h => by omega
  have bl : ∀ (y : Nat), y < 256 → blen y ≤ 8 := fun y h => blen_le h
  unfold bits_Len64.body
  by_cases e1 : x ≥ 65536
  · rw [if_pos (by omega)]
    by_cases e2 : x / 65536 ≥ 256
    · have hb := blen_shift 24 x (by rw [show (2 : Nat) ^ 24 = 16777216 from rfl]; omega)
      rw [show (2 : Nat) ^ 24 = 16777216 from rfl] at hb
      have hl := bl (x / 16777216) (by omega)
      have he : ((x : Int) / 65536) / 256 % 256 = ((x / 16777216 : Nat) : Int) := by omega
      rw [if_pos (by omega), if_pos (by omega), if_pos (by omega), he, tab _ (by omega), wrap_id (x := (n : Int) + 16) (by omega) (by omega), wrap_id (x := (n : Int) + 16 + 8) (by omega) (by omega), wrap_id (x := ((blen (x / 16777216) : Nat) : Int)) (by omega) (by omega), wrap_id (by omega) (by omega), hb]
      congr 1
      omega
    · have hb := blen_shift 16 x (by rw [show (2 : Nat) ^ 16 = 65536 from rfl]; omega)
      rw [show (2 : Nat) ^ 16 = 65536 from rfl] at hb
      have hl := bl (x / 65536) (by omega)
      have he : ((x : Int) / 65536) % 256 = ((x / 65536 : Nat) : Int) := by omega
      rw [if_neg (by omega), if_pos (by omega), if_pos (by omega), he, tab _ (by omega), wrap_id (x := (n : Int) + 16) (by omega) (by omega), wrap_id (x := ((blen (x / 65536) : Nat) : Int)) (by omega) (by omega), wrap_id (by omega) (by omega), hb]
      congr 1
      omega
  · rw [if_neg (by omega)]
    by_cases e2 : x ≥ 256
    · have hb := blen_shift 8 x (by rw [show (2 : Nat) ^ 8 = 256 from rfl]; omega)
      rw [show (2 : Nat) ^ 8 = 256 from rfl] at hb
      have hl := bl (x / 256) (by omega)
      have he : ((x : Int) / 256) % 256 = ((x / 256 : Nat) : Int) := by omega
      rw [if_pos (by omega), if_pos (by omega), if_pos (by omega), he, tab _ (by omega), wrap_id (x := (n : Int) + 8) (by omega) (by omega), wrap_id (x := ((blen (x / 256) : Nat) : Int)) (by omega) (by omega), wrap_id (by omega) (by omega), hb]
      congr 1
      omega
    · have hl := bl x (by omega)
      have he : (x : Int) % 256 = (x : Int) := by omega
      rw [if_neg (by omega), if_pos (by omega), if_pos (by omega), he, tab _ (by omega), wrap_id (x := ((blen x : Nat) : Int)) (by omega) (by omega), wrap_id (by omega) (by omega)]
      congr 1
theorem bits_Len64.tail (k n : Nat) (x : Nat) (hn : n ≤ 32) (hx : x < 4294967296) : bits_Len64.j0 (k + 1) (x : Int) (n : Int) = some (((n + blen x : Nat) : Int)) :=
  bits_Len64.steps (⟨#[0, 1, 2, 2, 3, 3, 3, 3, 4, 4, 4, 4, 4, 4, 4, 4, 5, 5, 5, 5, 5, 5, 5, 5, 5, 5, 5, 5, 5, 5, 5, 5, 6, 6, 6, 6, 6, 6, 6, 6, 6, 6, 6, 6, 6, 6, 6, 6, 6, 6, 6, 6, 6, 6, 6, 6, 6, 6, 6, 6, 6, 6, 6, 6, 7, 7, 7, 7, 7, 7, 7, 7, 7, 7, 7, 7, 7, 7, 7, 7, 7, 7, 7, 7, 7, 7, 7, 7, 7, 7, 7, 7, 7, 7, 7, 7, 7, 7, 7, 7, 7, 7, 7, 7, 7, 7, 7, 7, 7, 7, 7, 7, 7, 7, 7, 7, 7, 7, 7, 7, 7, 7, 7, 7, 7, 7, 7, 7, 8, 8, 8, 8, 8, 8, 8, 8, 8, 8, 8, 8, 8, 8, 8, 8, 8, 8, 8, 8, 8, 8, 8, 8, 8, 8, 8, 8, 8, 8, 8, 8, 8, 8, 8, 8, 8, 8, 8, 8, 8, 8, 8, 8, 8, 8, 8, 8, 8, 8, 8, 8, 8, 8, 8, 8, 8, 8, 8, 8, 8, 8, 8, 8, 8, 8, 8, 8, 8, 8, 8, 8, 8, 8, 8, 8, 8, 8, 8, 8, 8, 8, 8, 8, 8, 8, 8, 8, 8, 8, 8, 8, 8, 8, 8, 8, 8, 8, 8, 8, 8, 8, 8, 8, 8, 8, 8, 8, 8, 8, 8, 8, 8, 8, 8, 8, 8, 8, 8, 8, 8, 8, 8, 8, 8, 8, 8, 8]⟩ : ByteArray) bits_Len64.tab n x hn hx
theorem bits_Len64.eq (k : Nat) (x : Nat) (hx : x < 2 ^ 64) : bits_Len64.f (k + 1) (x : Int) = some ((blen x : Nat) : Int) := by
  unfold bits_Len64.f
  by_cases e : x ≥ 4294967296
  · have hb := blen_shift 32 x (by rw [show (2 : Nat) ^ 32 = 4294967296 from rfl]; omega)
    rw [show (2 : Nat) ^ 32 = 4294967296 from rfl] at hb
    have := bits_Len64.tail k 32 (x / 4294967296) (by omega) (by omega)
    rw [if_pos (by omega), show (x : Int) / 4294967296 = ((x / 4294967296 : Nat) : Int) by omega]
    refine this.trans ?_
    rw [hb, Nat.add_comm]
  · have := bits_Len64.tail k 0 x (by omega) (by omega)
    rw [if_neg (by omega)]
    refine this.trans ?_
    rw [Nat.zero_add]

/-! bits_Len -/
theorem bits_Len.eq (k : Nat) (x : Nat) (hx : x < 2 ^ 64) : bits_Len.f (k + 1) (x : Int) = some ((blen x : Nat) : Int) := by
  unfold bits_Len.f
  rw [bits_Len64.eq k x hx]
  rfl

/-! impl_in -/
theorem impl_in.eq (x a b : Int) : impl_in.f x a b = some (decide (a ≤ x) && decide (x ≤ b)) := by
  unfold impl_in.f
  by_cases h : a ≤ x
  · rw [if_pos h]; simp [h]
  · rw [if_neg h]; simp [h]

/-! impl_isCount -/
theorem impl_isCount.eq (x : Int) : impl_isCount.f x = some (decide (1 ≤ x) && decide (x ≤ 16)) := by unfold impl_isCount.f; rw [impl_in.eq]; rfl

/-! impl_whole -/
theorem impl_whole.eq (n : Int) (h0 : 0 ≤ n) (h1 : n ≤ 62) : impl_whole.f n = some (2 ^ n.toNat - 1) := by unfold impl_whole.f; rw [if_pos h0, whole_eq h0 h1]

/-! impl_has -/
theorem impl_has.eq (x i : Int) (hx : 0 ≤ x) (hx1 : x < 2 ^ 63) (hi : 0 ≤ i) : impl_has.f x i = some (bit x i) := by unfold impl_has.f; rw [if_pos hi, has_bit hx hx1 hi]

/-! impl_isGraph -/
theorem impl_isGraph.inner (l : List Int) (own : Bool) (hn : l.length ≤ 16) (i : Nat) (hi : i < l.length) (hbi : 0 ≤ l[i] ∧ l[i] < 2 ^ 63) (hb : ∀ j, (h : j < i) → 0 ≤ l[j] ∧ l[j] < 2 ^ 63) (r : Bool) (hr : Ev (fun k => impl_isGraph.l0 k (l.length : Int) l (l.length : Int) ((i + 1 : Nat) : Int) l own) r) (d : Nat) :
    ∀ j : Nat, i - j = d → j ≤ i → Ev (fun k => impl_isGraph.l1 k (l.length : Int) (i : Int) l[i] l (l.length : Int) (i : Int) (i : Int) (j : Int) l own) (((List.range' j (i - j)).all fun j => bit (l.getD i 0) (j : Int) == bit (l.getD j 0) (i : Int)) && r) := by
  induction d with
  | zero =>
    intro j hd hj
    refine Ev.step (f := fun k => impl_isGraph.l0 k (l.length : Int) l (l.length : Int) ((i + 1 : Nat) : Int) l own) (fun k => ?_) (by rw [hd]; simpa using hr)
    simp only [impl_isGraph.l1]
    rw [if_neg (by omega), wrap_succ i (by omega)]
  | succ d ih =>
    intro j hd hj
    have hlt : j < i := by omega
    have hbj := hb j hlt
    rw [hd, List.range'_succ, List.all_cons, Bool.and_assoc]
    have ih' := ih (j + 1) (by omega) (by omega)
    rw [show i - (j + 1) = d by omega] at ih'
    have h1 := impl_has.eq l[i] (j : Int) hbi.1 hbi.2 (by omega)
    have h2 := impl_has.eq l[j] (i : Int) hbj.1 hbj.2 (by omega)
    rw [getD_get l i hi, getD_get l j (by omega)]
    rw [getD_get l i hi] at ih'
    have step : ∀ k, impl_isGraph.l1 (k + 1) (l.length : Int) (i : Int) l[i] l (l.length : Int) (i : Int) (i : Int) (j : Int) l own = if (bit l[i] (j : Int) == bit l[j] (i : Int)) = true then impl_isGraph.l1 k (l.length : Int) (i : Int) l[i] l (l.length : Int) (i : Int) (i : Int) ((j + 1 : Nat) : Int) l own else some false := by
      intro k
      simp only [impl_isGraph.l1]
      rw [if_pos (by omega), h1, Option.bind_some, if_pos (by omega), if_pos (by omega), rd_get l j (by omega), h2, Option.bind_some, wrap_succ j (by omega)]
      cases bit l[i] (j : Int) <;> cases bit l[j] (i : Int) <;> rfl
    cases e : (bit l[i] (j : Int) == bit l[j] (i : Int))
    · rw [Bool.false_and]
      exact now fun k => by rw [step k, e]; rfl
    · rw [Bool.true_and]
      exact Ev.step (fun k => by rw [step k, e]; rfl) ih'
theorem impl_isGraph.outer (l : List Int) (own : Bool) (hn : l.length ≤ 16) (d : Nat) :
    ∀ i : Nat, l.length - i = d → i ≤ l.length → (∀ j, (h : j < i) → (hj : j < l.length) → 0 ≤ l[j] ∧ l[j] < 2 ^ l.length) → Ev (fun k => impl_isGraph.l0 k (l.length : Int) l (l.length : Int) (i : Int) l own) ((List.range' i (l.length - i)).all (okRow l)) := by
  induction d with
  | zero =>
    intro i hd hi _
    refine now fun k => ?_
    simp only [impl_isGraph.l0]
    rw [if_neg (by omega), hd]
    rfl
  | succ d ih =>
    intro i hd hi hb
    have hlt : i < l.length := by omega
    have h16 := pow16 hn
    rw [hd, List.range'_succ, List.all_cons]
    have hr : okRow l i = (inSet l.length l[i] && (!(bit l[i] (i : Int)) && (List.range' 0 i).all fun j => bit (l.getD i 0) (j : Int) == bit (l.getD j 0) (i : Int))) := by
      unfold okRow
      rw [getD_get l i hlt]
    have hin : impl_in.f l[i] 0 (2 ^ (l.length : Int).toNat - 1) = some (inSet l.length l[i]) := by
      rw [impl_in.eq, Int.toNat_natCast]
      unfold inSet
      congr 2
      rw [Bool.eq_iff_iff]
      simp only [decide_eq_true_eq]
      omega
    rw [hr]
    cases e1 : inSet l.length l[i]
    · rw [Bool.false_and, Bool.false_and]
      refine ⟨2, fun k hk => ?_⟩
      obtain ⟨m, rfl⟩ : ∃ m, k = m + 2 := ⟨k - 2, by omega⟩
      show impl_isGraph.l0 (m + 2) (l.length : Int) l (l.length : Int) (i : Int) l own = _
      simp only [impl_isGraph.l0]
      rw [if_pos (by omega), if_pos (by omega), if_pos (by omega), rd_get l i hlt, impl_whole.eq _ (by omega) (by omega), Option.bind_some, hin, Option.bind_some, e1, if_neg (by decide)]
      simp only [impl_isGraph.j1, if_true]
    · have hbi : 0 ≤ l[i] ∧ l[i] < 2 ^ l.length := by simpa [inSet] using e1
      have hbi' : 0 ≤ l[i] ∧ l[i] < 2 ^ 63 := by omega
      rw [Bool.true_and]
      have head : ∀ k, impl_isGraph.l0 (k + 2) (l.length : Int) l (l.length : Int) (i : Int) l own = if bit l[i] (i : Int) = true then some false else impl_isGraph.l1 k (l.length : Int) (i : Int) l[i] l (l.length : Int) (i : Int) (i : Int) ((0 : Nat) : Int) l own := by
        intro k
        simp only [impl_isGraph.l0]
        rw [if_pos (by omega), if_pos (by omega), if_pos (by omega), rd_get l i hlt, impl_whole.eq _ (by omega) (by omega), Option.bind_some, hin, Option.bind_some, e1, if_pos rfl, impl_has.eq l[i] (i : Int) hbi'.1 hbi'.2 (by omega), Option.bind_some]
        simp only [impl_isGraph.j1]
        rfl
      cases e2 : bit l[i] (i : Int)
      · rw [Bool.not_false, Bool.true_and]
        have ih' := ih (i + 1) (by omega) (by omega) (fun j h hj => by
          rcases Nat.lt_succ_iff_lt_or_eq.1 h with h | h
          · exact hb j h hj
          · subst h; exact hbi)
        rw [show l.length - (i + 1) = d by omega] at ih'
        obtain ⟨K, hK⟩ := impl_isGraph.inner l own hn i hlt hbi' (fun j h => by have := hb j h (by omega); omega) _ ih' i 0 (by omega) (by omega)
        rw [Nat.sub_zero] at hK
        refine ⟨K + 2, fun k hk => ?_⟩
        obtain ⟨m, rfl⟩ : ∃ m, k = m + 2 := ⟨k - 2, by omega⟩
        show impl_isGraph.l0 (m + 2) (l.length : Int) l (l.length : Int) (i : Int) l own = _
        rw [head m, e2, if_neg (by decide)]
        exact hK m (by omega)
      · rw [Bool.not_true, Bool.false_and, Bool.false_and]
        refine ⟨2, fun k hk => ?_⟩
        obtain ⟨m, rfl⟩ : ∃ m, k = m + 2 := ⟨k - 2, by omega⟩
        show impl_isGraph.l0 (m + 2) (l.length : Int) l (l.length : Int) (i : Int) l own = _
        rw [head m, e2, if_pos rfl]
theorem impl_isGraph.ev (l : List Int) (own : Bool) : Ev (fun k => impl_isGraph.f k l own) (good l) := by
  rw [good_rows]
  by_cases hn : 1 ≤ l.length ∧ l.length ≤ 16
  · have e1 : impl_isCount.f (l.length : Int) = some true := by rw [impl_isCount.eq, decide_eq_true (by omega), decide_eq_true (by omega)]; rfl
    rw [show (decide (1 ≤ l.length ∧ l.length ≤ 16)) = true from decide_eq_true hn, Bool.true_and]
    refine Ev.congr (f := fun k => impl_isGraph.l0 k (l.length : Int) l (l.length : Int) ((0 : Nat) : Int) l own) (fun k => ?_) (by simpa using impl_isGraph.outer l own hn.2 l.length 0 (by omega) (by omega) (fun j h => absurd h (by omega)))
    unfold impl_isGraph.f
    rw [e1, Option.bind_some, if_pos rfl]
    rfl
  · have e1 : impl_isCount.f (l.length : Int) = some false := by
      rw [impl_isCount.eq]
      congr 1
      rw [Bool.and_eq_false_iff, decide_eq_false_iff_not, decide_eq_false_iff_not]
      omega
    rw [show (decide (1 ≤ l.length ∧ l.length ≤ 16)) = false from decide_eq_false hn, Bool.false_and]
    refine always fun k => ?_
    unfold impl_isGraph.f
    rw [e1, Option.bind_some, if_neg (by decide)]

/-! impl_Graph_toggles -/
theorem impl_Graph_toggles.eq (l : List Int) (own : Bool) (hG : GoodG l) (i : Nat) (hi : i < l.length) : impl_Graph_toggles.f l own (i : Int) = some (togg l own i) := by
  have h16 := hG.top
  have hx := hG.sets (rd l (i : Int)) (rd_mem l _ (by omega) (by omega))
  have hp := pow16 hG.top
  unfold impl_Graph_toggles.f togg
  cases own
  · rw [if_neg (by decide), if_pos (by omega), if_pos (by omega), if_neg (by decide)]
  · have h2 : (2 : Nat) ^ i < 2 ^ 63 := Nat.pow_lt_pow_right (by decide) (by omega)
    rw [if_pos rfl, if_pos (by omega), if_pos (by omega), if_pos rfl, shl_one (by omega) (by omega), Int.toNat_natCast, or_eq hx.1 (by omega) (Int.natCast_nonneg _) (by exact_mod_cast h2)]
    rfl

/-! impl_top -/
theorem impl_top.eq (k : Nat) (x : Nat) (hx : x < 2 ^ 63) : impl_top.f (k + 1) (x : Int) = some (pdeg x) := by
  have e : IntKind.u64.wrap (x : Int) = (x : Int) := by
    show (x : Int) % _ = _
    exact Int.emod_eq_of_lt (by omega) (by show (x : Int) < 18446744073709551616; omega)
  have hb : blen x ≤ 63 := blen_le hx
  unfold impl_top.f
  rw [e, bits_Len.eq k x (by omega), Option.bind_some, wrap_id (by omega) (by omega)]
  rfl

/-! impl_reduced -/
theorem impl_reduced.step_eq (k : Nat) (s b : Nat) (hs : s < 2 ^ 62) (hb : b < 2 ^ 62) (h0 : b ≠ 0) : impl_reduced.step (k + 1) (s : Int) (b : Int) = some (redOne s b : Int) := by
  have h1 := blen_ne h0
  unfold impl_reduced.step redOne
  rw [impl_top.eq k b (by omega), Option.bind_some, impl_has.eq (s : Int) (pdeg b) (by omega) (by omega) (by unfold pdeg; omega), Option.bind_some]
  have e1 : bit (s : Int) (pdeg b) = s.testBit (blen b - 1) := by
    unfold bit pdeg
    rw [show ((blen b : Int) - 1).toNat = blen b - 1 by omega]
    rfl
  rw [e1]
  split
  · rw [xor_nat s b (by omega) (by omega)]
  · rfl
theorem impl_reduced.go_eq (k : Nat) : ∀ (l : List Nat) (s : Nat), s < 2 ^ 62 → (∀ b ∈ l, b < 2 ^ 62 ∧ b ≠ 0) → impl_reduced.go (k + 1) (ints l) (s : Int) = some ((l.foldl redOne s : Nat) : Int)
  | [], s, _, _ => rfl
  | b :: l, s, hs, h => by
    have hb := h b List.mem_cons_self
    show impl_reduced.go (k + 1) ((b : Int) :: ints l) (s : Int) = _
    unfold impl_reduced.go
    rw [impl_reduced.step_eq k s b hs hb.1 hb.2, Option.bind_some, impl_reduced.go_eq k l (redOne s b) (redOne_lt hs hb.1) (fun x hx => h x (List.mem_cons_of_mem _ hx))]
    rfl
theorem impl_reduced.eq (k : Nat) (l : List Nat) (s : Nat) (hs : s < 2 ^ 62) (h : ∀ b ∈ l, b < 2 ^ 62 ∧ b ≠ 0) : impl_reduced.f (k + 1) (ints l) (s : Int) = some (red l s : Int) := by
  unfold impl_reduced.f
  have e1 : (ints l).reverse = ints l.reverse := by unfold ints; rw [List.map_reverse]
  rw [e1, impl_reduced.go_eq k l.reverse s hs (fun b hb => h b (by simpa using hb)), List.foldl_reverse]
  rfl

/-! impl_extended -/
theorem impl_extended.tp_eq (k b : Nat) (hb : b < 2 ^ 62) : impl_extended.tp (k + 1) (b : Int) = pdeg b ∧ impl_extended.okB (k + 1) (b : Int) = true := by
  have h1 : blen b ≤ 62 := blen_le hb
  unfold impl_extended.tp impl_extended.okB
  rw [impl_top.eq k b (by omega)]
  refine ⟨rfl, ?_⟩
  simp only [Bool.and_eq_true, decide_eq_true_eq]
  unfold pdeg
  omega
theorem impl_extended.go_eq (k : Nat) (t : Nat) (ht : t < 2 ^ 62) (h0 : t ≠ 0) : ∀ l : List Nat, (∀ b ∈ l, b < 2 ^ 62) → impl_extended.go (k + 1) (t : Int) (ints l) = some (ints (l.map (putOne t)))
  | [], _ => rfl
  | b :: l, h => by
    have hb := h b List.mem_cons_self
    have h1 := blen_ne h0
    show impl_extended.go (k + 1) (t : Int) ((b : Int) :: ints l) = _
    unfold impl_extended.go
    rw [impl_top.eq k t (by omega), Option.bind_some, impl_has.eq (b : Int) (pdeg t) (by omega) (by omega) (by unfold pdeg; omega), Option.bind_some, impl_extended.go_eq k t ht h0 l (fun x hx => h x (List.mem_cons_of_mem _ hx)), Option.bind_some]
    have e1 : bit (b : Int) (pdeg t) = b.testBit (blen t - 1) := by
      unfold bit pdeg
      rw [show ((blen t : Int) - 1).toNat = blen t - 1 by omega]
      rfl
    rw [e1, xor_nat b t (by omega) (by omega), List.map_cons]
    unfold putOne
    show some _ = some (_ :: _)
    congr 2
    split <;> rfl
theorem impl_extended.eq (k : Nat) (l : List Nat) (s : Nat) (hs : s < 2 ^ 62) (hl : ∀ b ∈ l, b < 2 ^ 62) (hB : Basis l) (hn : l.length ≤ 1048576) : impl_extended.f (k + 1) (ints l) (s : Int) = some (ints (put l s)) := by
  have hr := red_lt l s hl hs
  have hc := red_clean l s hB
  unfold impl_extended.f put
  rw [impl_reduced.eq k l s hs (fun b hb => ⟨hl b hb, hB.pos b hb⟩), Option.bind_some]
  by_cases hz : red l s = 0
  · rw [if_pos (by omega), if_pos hz]
  · rw [if_neg (by omega), if_neg hz]
    generalize red l s = t at hr hc hz ⊢
    rw [impl_extended.go_eq k t hr hz l hl, Option.bind_some]
    have hp := putTop_perm hB hz hc
    have hT := putTop_basis hB hz hc
    have hlo := putTop_lt hl hr
    have ea : ints (l.map (putOne t)) ++ [(t : Int)] = ints (l.map (putOne t) ++ [t]) := by rw [ints_append]; rfl
    rw [ea]
    have hmem : ∀ x ∈ ints (l.map (putOne t) ++ [t]), ∃ b : Nat, x = (b : Int) ∧ b ∈ putTop l t := fun x hx => by
      unfold ints at hx
      obtain ⟨b, hb, rfl⟩ := List.mem_map.1 hx
      exact ⟨b, rfl, hp.mem_iff.1 hb⟩
    have hfit : impl_extended.fit (k + 1) (ints (l.map (putOne t) ++ [t])) = true := by
      unfold impl_extended.fit
      simp only [Bool.and_eq_true, List.all_eq_true, decide_eq_true_eq]
      refine ⟨⟨fun x hx => ?_, fun x hx y hy => ?_⟩, ?_⟩
      · obtain ⟨b, rfl, hb⟩ := hmem x hx
        exact (impl_extended.tp_eq k b (hlo b hb)).2
      · obtain ⟨b, rfl, hb⟩ := hmem x hx
        obtain ⟨c, rfl, hc2⟩ := hmem y hy
        rw [(impl_extended.tp_eq k b (hlo b hb)).1, (impl_extended.tp_eq k c (hlo c hc2)).1]
        simp only [Bool.or_eq_true, bne_iff_ne, beq_iff_eq]
        by_cases e : b = c
        · exact .inr (by rw [e])
        · refine .inl fun e2 => e ?_
          have e3 : blen b = blen c := by unfold pdeg at e2; omega
          have key : ∀ (r : List Nat), r.Pairwise (fun a b => blen a < blen b) → b ∈ r → c ∈ r → b = c := by
            intro r
            induction r with
            | nil => intro _ hx; simp at hx
            | cons d r ih =>
              intro hpw h1 h2
              obtain ⟨p1, p2⟩ := List.pairwise_cons.1 hpw
              rcases List.mem_cons.1 h1 with e5 | h1
              · rcases List.mem_cons.1 h2 with e6 | h2
                · rw [e5, e6]
                · have := p1 c h2; rw [← e5] at this; omega
              · rcases List.mem_cons.1 h2 with e6 | h2
                · have := p1 b h1; rw [← e6] at this; omega
                · exact ih p2 h1 h2
          exact key _ hT.up hb hc2
      · rw [ints_length, List.length_append, List.length_map, List.length_singleton]
        omega
    rw [if_pos hfit]
    congr 1
    have hs := List.pairwise_mergeSort (le := fun x y : Int => !decide (impl_extended.tp (k + 1) y < impl_extended.tp (k + 1) x)) (fun a b c h1 h2 => by simp at h1 h2 ⊢; omega) (fun a b => by simp; omega) (ints (l.map (putOne t) ++ [t]))
    refine List.Perm.eq_of_pairwise (le := fun x y : Int => impl_extended.tp (k + 1) x ≤ impl_extended.tp (k + 1) y) (fun a b ha hb h1 h2 => ?_) (hs.imp fun h => by simpa using h) ?_ ((List.mergeSort_perm _ _).trans (hp.map _))
    · obtain ⟨x, rfl, hx⟩ := hmem a ((List.mergeSort_perm _ _).mem_iff.1 ha)
      have hfa := impl_extended.fit_apart hfit
      have hb2 : b ∈ ints (l.map (putOne t) ++ [t]) := (hp.map _).mem_iff.2 hb
      exact hfa _ ((List.mergeSort_perm _ _).mem_iff.1 ha) b hb2 (Int.le_antisymm h1 h2)
    · unfold ints
      rw [List.pairwise_map]
      refine hT.up.imp_of_mem (fun {a b} ha hb h => ?_)
      rw [(impl_extended.tp_eq k a (hlo a ha)).1, (impl_extended.tp_eq k b (hlo b hb)).1]
      unfold pdeg
      omega

/-! impl_isSet -/
theorem impl_isSet.p_eq (n : Nat) (h : n ≤ 16) (s : Int) : impl_isSet.p n s = !(inSet n s) := by
  unfold impl_isSet.p
  rw [whole_eq (by omega) (by omega), impl_in.eq, Int.toNat_natCast, ← inSet_eq' n s]
  rfl
theorem impl_isSet.ev (l : List Int) (own : Bool) (ss : List Int) : Ev (fun k => impl_isSet.f k l own ss) (good l && ss.all (inSet l.length)) := by
  obtain ⟨K, hK⟩ := impl_isGraph.ev l own
  refine ⟨K, fun k hk => ?_⟩
  have h1 : impl_isGraph.f k l own = _ := hK k hk
  show impl_isSet.f k l own ss = _
  unfold impl_isSet.f
  rw [h1, Option.bind_some]
  cases hg : good l
  · rfl
  · have := ((good_iff l).1 hg).top
    rw [if_pos rfl, Bool.true_and, show impl_isSet.p l.length = (fun s => !(inSet l.length s)) from funext (impl_isSet.p_eq l.length this), List.not_any_eq_all_not]
    simp

/-! impl_Graph_effect -/
theorem impl_Graph_effect.loop (l : List Int) (own : Bool) (hG : GoodG l) (s : Int) (h0 : 0 ≤ s) (h1 : s < 2 ^ l.length) : ∀ (d i o : Nat), i + d = l.length → o < 2 ^ l.length → Ev (fun k => impl_Graph_effect.l0 k s (o : Int) (l.length : Int) (i : Int) l own) (effFrom l own s d i o : Int)
  | 0, i, o, hd, ho => by
    refine now fun k => ?_
    simp only [impl_Graph_effect.l0]
    rw [if_neg (by omega)]
    rfl
  | d + 1, i, o, hd, ho => by
    have h16 := pow16 hG.top
    have ht := hG.top
    have hc := pow_cast l.length
    have hb := togg_bounds l own hG i (by omega)
    have hin := impl_has.eq s (i : Int) h0 (by omega) (by omega)
    have htg := impl_Graph_toggles.eq l own hG i (by omega)
    unfold effFrom
    cases e : bit s (i : Int)
    · refine Ev.step (f := fun k => impl_Graph_effect.l0 k s (o : Int) (l.length : Int) ((i + 1 : Nat) : Int) l own) (fun k => ?_) (by simpa only [Bool.false_eq_true, if_false] using impl_Graph_effect.loop l own hG s h0 h1 d (i + 1) o (by omega) ho)
      simp only [impl_Graph_effect.l0]
      rw [if_pos (by omega), hin, Option.bind_some, e, if_neg (by decide), wrap_succ i (by omega)]
    · have hx : o ^^^ (togg l own i).toNat < 2 ^ l.length := Nat.xor_lt_two_pow ho (by omega)
      refine Ev.step (f := fun k => impl_Graph_effect.l0 k s ((o ^^^ (togg l own i).toNat : Nat) : Int) (l.length : Int) ((i + 1 : Nat) : Int) l own) (fun k => ?_) (by simpa only [if_true] using impl_Graph_effect.loop l own hG s h0 h1 d (i + 1) _ (by omega) hx)
      simp only [impl_Graph_effect.l0]
      rw [if_pos (by omega), hin, Option.bind_some, e, if_pos rfl, htg, Option.bind_some, xor_eq (by omega) (by omega) hb.1 (by omega), Int.toNat_natCast, wrap_succ i (by omega)]
theorem impl_Graph_effect.ev (l : List Int) (own : Bool) (hG : GoodG l) (s : Int) (h0 : 0 ≤ s) (h1 : s < 2 ^ l.length) : Ev (fun k => impl_Graph_effect.f k l own s) (effFrom l own s l.length 0 0 : Int) :=
  impl_Graph_effect.loop l own hG s h0 h1 l.length 0 0 (by omega) (Nat.two_pow_pos _)

/-! impl_PressAll -/
theorem impl_PressAll.ev (l : List Int) (own : Bool) (s p : Int) : Ev (fun k => impl_PressAll.f k l own s p) (pressAll l own s p) := by
  obtain ⟨K, hK⟩ := ev_get (impl_isSet.ev l own [s, p])
  unfold pressAll
  cases e1 : (good l && inSet l.length s)
  · refine ⟨K, fun k hk => ?_⟩
    show impl_PressAll.f k l own s p = _
    unfold impl_PressAll.f
    rw [hK k hk, Option.bind_some, if_neg (by simp only [List.all_cons, List.all_nil, Bool.and_true]; rw [← Bool.and_assoc, e1]; simp)]
    rfl
  · cases e2 : inSet l.length p
    · refine ⟨K, fun k hk => ?_⟩
      show impl_PressAll.f k l own s p = _
      unfold impl_PressAll.f
      rw [hK k hk, Option.bind_some, if_neg (by simp only [List.all_cons, List.all_nil, Bool.and_true]; rw [← Bool.and_assoc, e1, e2]; simp)]
      rfl
    · simp only [Bool.and_eq_true] at e1
      have hG := (good_iff l).1 e1.1
      obtain ⟨hs0, hs1, hs2⟩ := inSet_lt e1.2
      obtain ⟨hp0, hp1, hp2⟩ := inSet_lt e2
      have hc := pow_cast l.length
      have h16 := pow16 hG.top
      obtain ⟨K2, hK2⟩ := ev_get (impl_Graph_effect.ev l own hG p hp0 (by omega))
      have hlt := eff_lt l own hG p.toNat
      refine ⟨K + K2, fun k hk => ?_⟩
      show impl_PressAll.f k l own s p = _
      unfold impl_PressAll.f
      rw [hK k (by omega), Option.bind_some, if_pos (by simp [e1.1, e1.2, e2]), hK2 k (by omega), Option.bind_some, effFrom_eff, xor_eq hs0 (by omega) (by omega) (by omega)]
      rfl

/-! impl_EffectOf -/
theorem inSet_zero (n : Nat) : inSet n 0 = true := inSet_of (n := n) (s := 0) (Nat.two_pow_pos n)
theorem impl_EffectOf.ev (l : List Int) (own : Bool) (p : Int) : Ev (fun k => impl_EffectOf.f k l own p) (pressAll l own 0 p) := by
  obtain ⟨K, hK⟩ := ev_get (impl_PressAll.ev l own 0 p)
  refine ⟨K, fun k hk => ?_⟩
  show impl_EffectOf.f k l own p = _
  unfold impl_EffectOf.f
  rw [hK k hk]
  rfl

/-! spec_grAdd -/
theorem spec_grAdd.eq (l : List Nat) (own : Bool) (n : Nat) (hn : n ≤ 16) (hl : l.length = n) (hb : ∀ x ∈ l, x < 2 ^ n) (i j : Nat) (hi : i < n) (hj : j < n) : spec_grAdd.f (ints l) own (i : Int) (j : Int) = some (ints (joinL l i j)) := by
  have hp : (2 : Nat) ^ n ≤ 2 ^ 16 := Nat.pow_le_pow_right (by decide) hn
  have hpi : (2 : Nat) ^ i < 2 ^ n := Nat.pow_lt_pow_right (by decide) hi
  have hpj : (2 : Nat) ^ j < 2 ^ n := Nat.pow_lt_pow_right (by decide) hj
  have g1 := getD_lt hb i
  have h1 := set_lt hb i _ (Nat.or_lt_two_pow g1 hpj)
  have g2 := getD_lt h1 j
  have s1 : shl .i64 1 (j : Int) = ((2 ^ j : Nat) : Int) := by rw [shl_one (by omega) (by omega), Int.toNat_natCast]
  have s2 : shl .i64 1 (i : Int) = ((2 ^ i : Nat) : Int) := by rw [shl_one (by omega) (by omega), Int.toNat_natCast]
  unfold spec_grAdd.f
  simp only [Int.toNat_natCast, s1, s2]
  rw [if_pos (by omega), if_pos (by rw [ints_length]; omega), if_pos (by omega), ints_getD l i (by omega), or_nat _ _ (by omega) (by omega), ints_set, Option.bind_some, if_pos (by rw [ints_length]; omega), ints_getD _ j (by simp; omega), or_nat _ _ (by omega) (by omega), ints_set]
  rfl

/-! spec_grPath -/
theorem spec_grPath.loop (n : Nat) (own : Bool) (hn : n ≤ 16) : ∀ (d i : Nat) (l : List Nat), i + d = n - 1 → 1 ≤ n → l.length = n → (∀ x ∈ l, x < 2 ^ n) → Ev (fun k => spec_grPath.l0 k (n : Int) ((i + 1 : Nat) : Int) (ints l) own) (ints (pathGo d i l), own)
  | 0, i, l, hd, h1, hl, hb => by
    refine now fun k => ?_
    simp only [spec_grPath.l0]
    rw [if_neg (by omega)]
    rfl
  | d + 1, i, l, hd, h1, hl, hb => by
    refine Ev.step (f := fun k => spec_grPath.l0 k (n : Int) ((i + 1 + 1 : Nat) : Int) (ints (joinL l i (i + 1))) own) (fun k => ?_) (spec_grPath.loop n own hn d (i + 1) _ (by omega) h1 (by rw [joinL_length]; exact hl) (joinL_lt hb i (i + 1) (by omega) (by omega)))
    simp only [spec_grPath.l0]
    rw [if_pos (by omega), wrap_id (x := ((i + 1 : Nat) : Int) - 1) (by omega) (by omega), show ((i + 1 : Nat) : Int) - 1 = (i : Int) by omega, spec_grAdd.eq l own n hn hl hb i (i + 1) (by omega) (by omega), Option.bind_some, wrap_succ (i + 1) (by omega)]
theorem spec_grPath.ev (n : Nat) (own : Bool) (h1 : 1 ≤ n) (hn : n ≤ 16) : Ev (fun k => spec_grPath.f k (n : Int) own) (ints (pathL n), own) := by
  have h := spec_grPath.loop n own hn (n - 1) 0 (List.replicate n 0) (by omega) h1 (by simp) (zeros_lt n n)
  refine Ev.congr (f := fun k => spec_grPath.l0 k (n : Int) ((0 + 1 : Nat) : Int) (ints (List.replicate n 0)) own) (fun k => ?_) h
  unfold spec_grPath.f
  rw [if_pos (by omega), if_pos (by rw [Int.toNat_natCast]; omega), Int.toNat_natCast]
  unfold ints
  rw [List.map_replicate]
  rfl

/-! spec_grCircle -/
theorem spec_grCircle.ev (n : Nat) (own : Bool) (h1 : 3 ≤ n) (hn : n ≤ 16) : Ev (fun k => spec_grCircle.f k (n : Int) own) (ints (circleL n), own) := by
  obtain ⟨K, hK⟩ := spec_grPath.ev n own (by omega) hn
  refine ⟨K, fun k hk => ?_⟩
  have c1 : spec_grPath.f k (n : Int) own = _ := hK k hk
  show spec_grCircle.f k (n : Int) own = _
  unfold spec_grCircle.f
  rw [c1, Option.bind_some, wrap_id (by omega) (by omega), show (n : Int) - 1 = ((n - 1 : Nat) : Int) by omega]
  have h2 := spec_grAdd.eq (pathL n) own n hn (pathL_length n) (pathL_lt (by omega)) 0 (n - 1) (by omega) (by omega)
  show (spec_grAdd.f (ints (pathL n)) own ((0 : Nat) : Int) ((n - 1 : Nat) : Int)).bind _ = _
  rw [h2, Option.bind_some]
  rfl

/-! spec_l1In -/
theorem spec_l1In.eq (x a b : Int) : spec_l1In.f x a b = some (decide (a ≤ x) && decide (x ≤ b)) := by
  unfold spec_l1In.f
  by_cases h : a ≤ x
  · rw [if_pos (by omega)]; simp [h]
  · rw [if_neg (by omega)]; simp [h]

/-! spec_grSize -/
theorem spec_grSize.eq (x : Int) : spec_grSize.f x = some (decide (1 ≤ x) && decide (x ≤ 16)) := by unfold spec_grSize.f; rw [spec_l1In.eq]; rfl

/-! spec_l1All -/
theorem spec_l1All.loop (l : List Int) (a b : Int) (h : l.length < 4611686018427387904) (d : Nat) : ∀ i : Nat, l.length - i = d → i ≤ l.length → Ev (fun k => spec_l1All.l0 k a b l (l.length : Int) (i : Int)) ((l.drop i).all fun x => decide (a ≤ x) && decide (x ≤ b)) := by
  induction d with
  | zero =>
    intro i hd hi
    refine now fun k => ?_
    simp only [spec_l1All.l0]
    rw [if_neg (by omega), List.drop_eq_nil_of_le (by omega)]
    rfl
  | succ d ih =>
    intro i hd hi
    have hlt : i < l.length := by omega
    rw [drop_cons l i hlt, List.all_cons]
    by_cases e : (decide (a ≤ l[i]) && decide (l[i] ≤ b)) = true
    · refine Ev.step (f := fun k => spec_l1All.l0 k a b l (l.length : Int) ((i + 1 : Nat) : Int)) (fun k => ?_) (by rw [e, Bool.true_and]; exact ih (i + 1) (by omega) (by omega))
      simp only [spec_l1All.l0]
      rw [if_pos (by omega), if_pos (by omega), if_pos (by omega), rd_get l i hlt, spec_l1In.eq, e, wrap_succ i (by omega)]
      rfl
    · refine now fun k => ?_
      simp only [spec_l1All.l0]
      replace e := Bool.eq_false_iff.mpr e
      rw [if_pos (by omega), if_pos (by omega), if_pos (by omega), rd_get l i hlt, spec_l1In.eq, e]
      rfl
theorem spec_l1All.ev (l : List Int) (a b : Int) (h : l.length < 4611686018427387904) : Ev (fun k => spec_l1All.f k l a b) (l.all fun x => decide (a ≤ x) && decide (x ≤ b)) :=
  spec_l1All.loop l a b h l.length 0 (by omega) (by omega)

/-! spec_grIn -/
theorem spec_grIn.eq (x i : Int) (hx : 0 ≤ x) (hx1 : x < 2 ^ 63) (hi : 0 ≤ i) : spec_grIn.f x i = some (bit x i) := by unfold spec_grIn.f; rw [if_pos hi, in_bit hx hx1 hi]

/-! spec_grGood -/
theorem spec_grGood.inner (l : List Int) (own : Bool) (hn : l.length ≤ 16) (hg : ∀ x ∈ l, 0 ≤ x ∧ x < 2 ^ l.length) (i : Nat) (hi : i < l.length) (r : Bool) (hr : Ev (fun k => spec_grGood.l0 k l (l.length : Int) ((i + 1 : Nat) : Int) l own) r) (d : Nat) :
    ∀ j : Nat, l.length - j = d → j ≤ l.length → Ev (fun k => spec_grGood.l1 k (i : Int) l[i] l (l.length : Int) (i : Int) (l.length : Int) (j : Int) l own) (((List.range' j (l.length - j)).all fun j => okPair l i j) && r) := by
  induction d with
  | zero =>
    intro j hd hj
    refine Ev.step (f := fun k => spec_grGood.l0 k l (l.length : Int) ((i + 1 : Nat) : Int) l own) (fun k => ?_) (by rw [hd]; simpa using hr)
    simp only [spec_grGood.l1]
    rw [if_neg (by omega), wrap_succ i (by omega)]
  | succ d ih =>
    intro j hd hj
    have hlt : j < l.length := by omega
    have hbi := set_bounds l hn hg i hi
    have hbj := set_bounds l hn hg j hlt
    rw [hd, List.range'_succ, List.all_cons, Bool.and_assoc]
    have ih' := ih (j + 1) (by omega) (by omega)
    rw [show l.length - (j + 1) = d by omega] at ih'
    have hb := spec_grIn.eq l[i] (j : Int) hbi.1 hbi.2 (by omega)
    have hb2 := spec_grIn.eq l[j] (i : Int) hbj.1 hbj.2 (by omega)
    have step : ∀ k, spec_grGood.l1 (k + 1) (i : Int) l[i] l (l.length : Int) (i : Int) (l.length : Int) (j : Int) l own = if okPair l i j = true then spec_grGood.l1 k (i : Int) l[i] l (l.length : Int) (i : Int) (l.length : Int) ((j + 1 : Nat) : Int) l own else some false := by
      intro k
      simp only [spec_grGood.l1]
      rw [if_pos (by omega), hb, Option.bind_some, okPair_eq l i j hi hlt]
      cases e1 : bit l[i] (j : Int)
      · simp only [Bool.false_eq_true, if_false, Bool.not_false, Bool.true_or, if_true]
        rw [wrap_succ j (by omega)]
      · simp only [if_true, Bool.not_true, Bool.false_or]
        by_cases e2 : i = j
        · subst e2
          simp
        · rw [if_neg (by omega), if_pos (by omega), if_pos (by omega), rd_get l j hlt, hb2, Option.bind_some, wrap_succ j (by omega)]
          simp [e2]
    cases e : okPair l i j
    · rw [Bool.false_and]
      exact now fun k => by rw [step k, e]; rfl
    · rw [Bool.true_and]
      exact Ev.step (fun k => by rw [step k, e]; rfl) ih'
theorem spec_grGood.outer (l : List Int) (own : Bool) (hn : l.length ≤ 16) (hg : ∀ x ∈ l, 0 ≤ x ∧ x < 2 ^ l.length) (d : Nat) :
    ∀ i : Nat, l.length - i = d → i ≤ l.length → Ev (fun k => spec_grGood.l0 k l (l.length : Int) (i : Int) l own) ((List.range' i (l.length - i)).all fun i => (List.range' 0 l.length).all fun j => okPair l i j) := by
  induction d with
  | zero =>
    intro i hd hi
    refine now fun k => ?_
    simp only [spec_grGood.l0]
    rw [if_neg (by omega), hd]
    rfl
  | succ d ih =>
    intro i hd hi
    have hlt : i < l.length := by omega
    rw [hd, List.range'_succ, List.all_cons]
    have ih' := ih (i + 1) (by omega) (by omega)
    rw [show l.length - (i + 1) = d by omega] at ih'
    refine Ev.step (f := fun k => spec_grGood.l1 k (i : Int) l[i] l (l.length : Int) (i : Int) (l.length : Int) ((0 : Nat) : Int) l own) (fun k => ?_) (spec_grGood.inner l own hn hg i hlt _ ih' l.length 0 (by omega) (by omega))
    simp only [spec_grGood.l0]
    rw [if_pos (by omega), if_pos (by omega), if_pos (by omega), rd_get l i hlt]
    rfl
theorem spec_grGood.ev (l : List Int) (own : Bool) (h : l.length < 4611686018427387904) : Ev (fun k => spec_grGood.f k l own) (good l) := by
  rw [good_eq]
  by_cases hn : 1 ≤ l.length ∧ l.length ≤ 16
  · have e1 : spec_grSize.f (l.length : Int) = some true := by rw [spec_grSize.eq, decide_eq_true (by omega), decide_eq_true (by omega)]; rfl
    have e2 := spec_l1All.ev l 0 (wrap64 ((shl .i64 1 (l.length : Int)) - 1)) h
    rw [whole_eq (by omega) (by omega)] at e2
    rw [show (decide (1 ≤ l.length ∧ l.length ≤ 16)) = true from decide_eq_true hn, Bool.true_and]
    have e3 : (l.all fun x => decide (0 ≤ x) && decide (x ≤ 2 ^ (l.length : Int).toNat - 1)) = l.all (inSet l.length) := by
      congr 1
      funext x
      unfold inSet
      rw [Int.toNat_natCast]
      congr 1
      rw [Bool.eq_iff_iff]
      simp only [decide_eq_true_eq]
      omega
    rw [e3] at e2
    obtain ⟨K, hK⟩ := e2
    by_cases hg : l.all (inSet l.length) = true
    · rw [hg, Bool.true_and]
      have hg' := inSet_all l hg
      obtain ⟨K2, hK2⟩ := spec_grGood.outer l own hn.2 hg' l.length 0 (by omega) (by omega)
      refine ⟨K + K2 + 1, fun k hk => ?_⟩
      obtain ⟨m, rfl⟩ : ∃ m, k = m + 1 := ⟨k - 1, by omega⟩
      have h1 : spec_l1All.f (m + 1) l 0 (2 ^ (l.length : Int).toNat - 1) = _ := hK (m + 1) (by omega)
      have h2 : spec_grGood.l0 m l (l.length : Int) ((0 : Nat) : Int) l own = _ := hK2 m (by omega)
      show spec_grGood.f (m + 1) l own = _
      unfold spec_grGood.f
      rw [e1, Option.bind_some, if_pos rfl, whole_eq (by omega) (by omega), h1, Option.bind_some, hg]
      simp only [spec_grGood.j0, Bool.not_true, Bool.false_eq_true, if_false]
      rw [Nat.sub_zero] at h2
      exact h2
    · replace hg := Bool.eq_false_iff.mpr hg
      rw [hg, Bool.false_and]
      refine ⟨K + 1, fun k hk => ?_⟩
      obtain ⟨m, rfl⟩ : ∃ m, k = m + 1 := ⟨k - 1, by omega⟩
      have h1 : spec_l1All.f (m + 1) l 0 (2 ^ (l.length : Int).toNat - 1) = _ := hK (m + 1) (by omega)
      show spec_grGood.f (m + 1) l own = _
      unfold spec_grGood.f
      rw [e1, Option.bind_some, if_pos rfl, whole_eq (by omega) (by omega), h1, Option.bind_some, hg]
      simp only [spec_grGood.j0, Bool.not_false, if_true]
  · have e1 : spec_grSize.f (l.length : Int) = some false := by
      rw [spec_grSize.eq]
      congr 1
      rw [Bool.and_eq_false_iff, decide_eq_false_iff_not, decide_eq_false_iff_not]
      omega
    rw [show (decide (1 ≤ l.length ∧ l.length ≤ 16)) = false from decide_eq_false hn, Bool.false_and]
    refine now fun k => ?_
    unfold spec_grGood.f
    rw [e1, Option.bind_some, if_neg (by decide)]
    simp only [spec_grGood.j0, if_true]

/-! spec_soTop -/
theorem spec_soTop.loop : ∀ (n : Nat) (x : Nat) (o : Int), blen x = n → n ≤ 63 → -1 ≤ o → o + n ≤ 100 → Ev (fun k => spec_soTop.l0 k (x : Int) o) (o + n)
  | 0, x, o, hn, _, h0, h1 => by
    have : x = 0 := by
      by_cases e : x = 0
      · exact e
      · rw [blen_pos e] at hn; omega
    subst this
    refine now fun k => ?_
    simp only [spec_soTop.l0]
    rw [if_neg (by decide)]
    simp
  | n + 1, x, o, hn, h63, h0, h1 => by
    have hb : x < 2 ^ 63 := lt_of_blen (by omega)
    have hx : x ≠ 0 := fun e => by rw [e, blen_zero] at hn; omega
    rw [blen_pos hx] at hn
    have ih := spec_soTop.loop n (x / 2) (o + 1) (by omega) (by omega) (by omega) (by omega)
    rw [show o + 1 + (n : Int) = o + ((n + 1 : Nat) : Int) by omega] at ih
    refine Ev.step (f := fun k => spec_soTop.l0 k ((x / 2 : Nat) : Int) (o + 1)) (fun k => ?_) ih
    simp only [spec_soTop.l0]
    rw [if_pos (by omega), Int.tdiv_eq_ediv_of_nonneg (by omega), wrap_id (by omega) (by omega), wrap_id (by omega) (by omega), show (x : Int) / 2 = ((x / 2 : Nat) : Int) by omega]
theorem spec_soTop.ev (x : Nat) (hx : x < 2 ^ 63) : Ev (fun k => spec_soTop.f k (x : Int)) (pdeg x) := by
  have hb : blen x ≤ 63 := blen_le hx
  have := spec_soTop.loop (blen x) x (-1) rfl hb (by omega) (by omega)
  rw [show (-1 : Int) + (blen x : Int) = pdeg x by unfold pdeg; omega] at this
  exact this

/-! impl_Graph_parts -/
theorem impl_Graph_parts.inner (l : List Int) (own : Bool) (hG : GoodG l) (o : List Int) (d m n0 i : Nat) (hm : m < 2 ^ l.length) (R : List Int)
    (hR : Ev (fun k => impl_Graph_parts.l1 k o (d : Int) (m : Int) ((orUp (nbs l) m m l.length : Nat) : Int) (n0 : Int) (i : Int) l own) R) :
    ∀ (q j : Nat), l.length - j = q → j ≤ l.length → Ev (fun k => impl_Graph_parts.l2 k o (d : Int) (m : Int) ((orUp (nbs l) m m j : Nat) : Int) (n0 : Int) (i : Int) l (l.length : Int) (j : Int) l own) R
  | 0, j, hq, hj => by
    have ht := hG.top
    have e : j = l.length := by omega
    subst e
    refine Ev.step (f := fun k => impl_Graph_parts.l1 k o (d : Int) (m : Int) ((orUp (nbs l) m m l.length : Nat) : Int) (n0 : Int) (i : Int) l own) (fun k => ?_) hR
    simp only [impl_Graph_parts.l2]
    rw [if_neg (by omega)]
  | q + 1, j, hq, hj => by
    have ht := hG.top
    have h16 : (2 : Nat) ^ l.length ≤ 2 ^ 16 := Nat.pow_le_pow_right (by decide) hG.top
    have hjl : j < l.length := by omega
    have ih := impl_Graph_parts.inner l own hG o d m n0 i hm R hR q (j + 1) (by omega) (by omega)
    have hb := nbs_rd hG hjl
    have hl := orUp_lt (x := m) (nbs_lt hG) hm j hj
    have hin := impl_has.eq (m : Int) (j : Int) (by omega) (by omega) (by omega)
    have hbit : bit (m : Int) (j : Int) = m.testBit j := by unfold bit; simp
    rw [hbit] at hin
    refine Ev.step (f := fun k => impl_Graph_parts.l2 k o (d : Int) (m : Int) ((orUp (nbs l) m m (j + 1) : Nat) : Int) (n0 : Int) (i : Int) l (l.length : Int) ((j + 1 : Nat) : Int) l own) (fun k => ?_) ih
    simp only [impl_Graph_parts.l2]
    rw [if_pos (by omega), if_pos (by omega), if_pos (by omega), hin, Option.bind_some, wrap_succ j (by omega), hb.1]
    rw [show orUp (nbs l) m m (j + 1) = if m.testBit j = true then orUp (nbs l) m m j ||| nbs l j else orUp (nbs l) m m j from rfl]
    split
    · rw [or_nat _ _ (by omega) (by omega)]
    · rfl
theorem impl_Graph_parts.grow (l : List Int) (own : Bool) (hG : GoodG l) (o : List Int) (d i : Nat) (hi : i < l.length) (hd : d < 2 ^ l.length) (ho : o.length ≤ 1000) (n0 : Nat) (R : List Int)
    (hR : Ev (fun k => impl_Graph_parts.l0 k (o ++ [((clo (nbs l) l.length i : Nat) : Int)]) ((d ||| clo (nbs l) l.length i : Nat) : Int) (n0 : Int) ((i + 1 : Nat) : Int) l own) R) :
    ∀ (q p m : Nat), 2 ^ l.length - m ≤ q → m < 2 ^ l.length → p ≠ m → m.testBit i = true → Sub m (clo (nbs l) l.length i) → Ev (fun k => impl_Graph_parts.l1 k o (d : Int) (p : Int) (m : Int) (n0 : Int) (i : Int) l own) R
  | 0, p, m, hq, hm, _, _, _ => by omega
  | q + 1, p, m, hq, hm, hne, hbi, hsub => by
    have ht := hG.top
    have h16 : (2 : Nat) ^ l.length ≤ 2 ^ 16 := Nat.pow_le_pow_right (by decide) hG.top
    have hcl := clo_is (nbs_lt hG) hi
    have hlt := orUp_lt (x := m) (nbs_lt hG) hm l.length (Nat.le_refl _)
    have hgs := orUp_sub (nbs l) m m l.length
    have hin := orUp_in (x := m) hcl.shut hsub hsub l.length (Nat.le_refl _)
    have hcl2 := clo_lt (nbs_lt hG) hi
    have hnext : Ev (fun k => impl_Graph_parts.l1 k o (d : Int) (m : Int) ((orUp (nbs l) m m l.length : Nat) : Int) (n0 : Int) (i : Int) l own) R := by
      by_cases e : orUp (nbs l) m m l.length = m
      · have em : m = clo (nbs l) l.length i := IsCl.eq ⟨hbi, orUp_shut e, fun y hy hc => hsub.trans (hcl.least y hy hc)⟩ hcl
        refine Ev.step (f := fun k => impl_Graph_parts.l0 k (o ++ [((clo (nbs l) l.length i : Nat) : Int)]) ((d ||| clo (nbs l) l.length i : Nat) : Int) (n0 : Int) ((i + 1 : Nat) : Int) l own) (fun k => ?_) hR
        simp only [impl_Graph_parts.l1]
        rw [if_pos (by omega), if_pos (by omega), or_nat _ _ (by omega) (by omega), wrap_succ i (by omega), ← em]
      · have hlt2 : m < orUp (nbs l) m m l.length := by
          have hle : m ≤ orUp (nbs l) m m l.length := Nat.le_of_testBit hgs
          omega
        exact impl_Graph_parts.grow l own hG o d i hi hd ho n0 R hR q m _ (by omega) hlt (fun h => e h.symm) (hgs i hbi) hin
    have h2 := impl_Graph_parts.inner l own hG o d m n0 i hm R hnext l.length 0 (by omega) (by omega)
    refine Ev.step (f := fun k => impl_Graph_parts.l2 k o (d : Int) (m : Int) ((m : Nat) : Int) (n0 : Int) (i : Int) l (l.length : Int) ((0 : Nat) : Int) l own) (fun k => ?_) h2
    simp only [impl_Graph_parts.l1]
    rw [if_neg (by omega)]
    rfl
theorem impl_Graph_parts.outer (l : List Int) (own : Bool) (hG : GoodG l) : ∀ (q t : Nat), l.length - t = q → t ≤ l.length → Ev (fun k => impl_Graph_parts.l0 k (ints (partsUp (nbs l) l.length t).1) (((partsUp (nbs l) l.length t).2 : Nat) : Int) (l.length : Int) (t : Int) l own) (ints (partsUp (nbs l) l.length l.length).1)
  | 0, t, hq, ht => by
    have hlt := hG.top
    have e : t = l.length := by omega
    subst e
    refine now fun k => ?_
    simp only [impl_Graph_parts.l0]
    rw [if_neg (by omega)]
  | q + 1, t, hq, ht => by
    have hlt := hG.top
    have h16 : (2 : Nat) ^ l.length ≤ 2 ^ 16 := Nat.pow_le_pow_right (by decide) hG.top
    have ih := impl_Graph_parts.outer l own hG q (t + 1) (by omega) (by omega)
    have hI := parts_inv (nbs_lt hG) (nbs_sym hG) t ht
    have hil := hI.lt
    have hlen := hI.len
    have hin := impl_has.eq (((partsUp (nbs l) l.length t).2 : Nat) : Int) (t : Int) (by omega) (by omega) (by omega)
    have hbit : bit (((partsUp (nbs l) l.length t).2 : Nat) : Int) (t : Int) = (partsUp (nbs l) l.length t).2.testBit t := by unfold bit; simp
    rw [hbit] at hin
    rw [partsUp] at ih
    cases hb : (partsUp (nbs l) l.length t).2.testBit t
    · rw [hb, if_neg (by decide)] at ih
      rw [hb] at hin
      have hcl := clo_is (nbs_lt hG) (show t < l.length by omega)
      have hp2 : (2 : Nat) ^ t < 2 ^ l.length := Nat.pow_lt_pow_right (by decide) (by omega)
      have h2 := impl_Graph_parts.grow l own hG (ints (partsUp (nbs l) l.length t).1) (partsUp (nbs l) l.length t).2 t (by omega) hil (by rw [ints_length]; omega) l.length _ (by rw [ints_append] at ih; exact ih) (2 ^ l.length) 0 (2 ^ t) (Nat.sub_le _ _) hp2 (fun h => pow_ne t h.symm) (by rw [Nat.testBit_two_pow]; simp) (pow_sub hcl.own)
      refine Ev.step (f := fun k => impl_Graph_parts.l1 k (ints (partsUp (nbs l) l.length t).1) (((partsUp (nbs l) l.length t).2 : Nat) : Int) ((0 : Nat) : Int) ((2 ^ t : Nat) : Int) (l.length : Int) (t : Int) l own) (fun k => ?_) h2
      simp only [impl_Graph_parts.l0]
      rw [if_pos (by omega), hin, Option.bind_some, if_neg (by decide), if_pos (by omega), shl_one (by omega) (by omega), Int.toNat_natCast]
      rfl
    · rw [hb, if_pos rfl] at ih
      rw [hb] at hin
      refine Ev.step (f := fun k => impl_Graph_parts.l0 k (ints (partsUp (nbs l) l.length t).1) (((partsUp (nbs l) l.length t).2 : Nat) : Int) (l.length : Int) ((t + 1 : Nat) : Int) l own) (fun k => ?_) ih
      simp only [impl_Graph_parts.l0]
      rw [if_pos (by omega), hin, Option.bind_some, if_pos rfl, wrap_succ t (by omega)]
theorem impl_Graph_parts.ev (l : List Int) (own : Bool) (hG : GoodG l) : Ev (fun k => impl_Graph_parts.f k l own) (ints (partsUp (nbs l) l.length l.length).1) := impl_Graph_parts.outer l own hG l.length 0 (by omega) (by omega)

/-! impl_PartsOf -/
theorem impl_PartsOf.ev (l : List Int) (own : Bool) : Ev (fun k => impl_PartsOf.f k l own) (partsR l) := by
  obtain ⟨K, hK⟩ := impl_isGraph.ev l own
  unfold partsR
  cases e : good l
  · refine ⟨K, fun k hk => ?_⟩
    have h1 : impl_isGraph.f k l own = _ := hK k hk
    show impl_PartsOf.f k l own = _
    unfold impl_PartsOf.f
    rw [h1, Option.bind_some, e]
    rfl
  · obtain ⟨K2, hK2⟩ := impl_Graph_parts.ev l own ((good_iff l).1 e)
    refine ⟨K + K2, fun k hk => ?_⟩
    have h1 : impl_isGraph.f k l own = _ := hK k (by omega)
    have h2 : impl_Graph_parts.f k l own = _ := hK2 k (by omega)
    show impl_PartsOf.f k l own = _
    unfold impl_PartsOf.f
    rw [h1, Option.bind_some, e, if_pos rfl, h2, Option.bind_some, if_pos rfl]

/-! spec_paParts -/
theorem spec_paParts.inner (l : List Int) (own : Bool) (hG : GoodG l) (o : List Int) (d m s i : Nat) (hm : m < 2 ^ l.length) (hs : s < l.length) (n0 : Nat) (R : List Int)
    (hR : Ev (fun k => spec_paParts.l1 k o (d : Int) ((inUp (nbs l) m l.length : Nat) : Int) ((s + 1 : Nat) : Int) (n0 : Int) (i : Int) l own) R) :
    ∀ (q j : Nat), l.length - j = q → j ≤ l.length → Ev (fun k => spec_paParts.l2 k o (d : Int) ((inUp (nbs l) m j : Nat) : Int) (s : Int) (n0 : Int) (i : Int) l (l.length : Int) (j : Int) l own) R
  | 0, j, hq, hj => by
    have ht := hG.top
    have e : j = l.length := by omega
    subst e
    refine Ev.step (f := fun k => spec_paParts.l1 k o (d : Int) ((inUp (nbs l) m l.length : Nat) : Int) ((s + 1 : Nat) : Int) (n0 : Int) (i : Int) l own) (fun k => ?_) hR
    simp only [spec_paParts.l2]
    rw [if_neg (by omega), wrap_succ s (by omega)]
  | q + 1, j, hq, hj => by
    have ht := hG.top
    have h16 : (2 : Nat) ^ l.length ≤ 2 ^ 16 := Nat.pow_le_pow_right (by decide) hG.top
    have hjl : j < l.length := by omega
    have ih := spec_paParts.inner l own hG o d m s i hm hs n0 R hR q (j + 1) (by omega) (by omega)
    have hb := nbs_rd hG hjl
    have hl := inUp_lt (nbs_lt hG) hm j hj
    have hin := spec_grIn.eq ((inUp (nbs l) m j : Nat) : Int) (j : Int) (by omega) (by omega) (by omega)
    have hbit : bit ((inUp (nbs l) m j : Nat) : Int) (j : Int) = (inUp (nbs l) m j).testBit j := by unfold bit; simp
    rw [hbit] at hin
    refine Ev.step (f := fun k => spec_paParts.l2 k o (d : Int) ((inUp (nbs l) m (j + 1) : Nat) : Int) (s : Int) (n0 : Int) (i : Int) l (l.length : Int) ((j + 1 : Nat) : Int) l own) (fun k => ?_) ih
    simp only [spec_paParts.l2]
    rw [if_pos (by omega), if_pos (by omega), if_pos (by omega), hin, Option.bind_some, wrap_succ j (by omega), hb.1]
    rw [show inUp (nbs l) m (j + 1) = if (inUp (nbs l) m j).testBit j = true then inUp (nbs l) m j ||| nbs l j else inUp (nbs l) m j from rfl]
    split
    · rw [or_nat _ _ (by omega) (by omega)]
    · rfl
theorem spec_paParts.grow (l : List Int) (own : Bool) (hG : GoodG l) (o : List Int) (d i : Nat) (hi : i < l.length) (hd : d < 2 ^ l.length) (ho : o.length ≤ 1000) (n0 : Nat) (R : List Int)
    (hR : Ev (fun k => spec_paParts.l0 k (o ++ [((clo (nbs l) l.length i : Nat) : Int)]) ((d ||| clo (nbs l) l.length i : Nat) : Int) (n0 : Int) ((i + 1 : Nat) : Int) l own) R) :
    ∀ (q s : Nat), l.length - s = q → s ≤ l.length → Ev (fun k => spec_paParts.l1 k o (d : Int) ((growN (nbs l) l.length (2 ^ i) s : Nat) : Int) (s : Int) (n0 : Int) (i : Int) l own) R
  | 0, s, hq, hs => by
    have ht := hG.top
    have h16 : (2 : Nat) ^ l.length ≤ 2 ^ 16 := Nat.pow_le_pow_right (by decide) hG.top
    have e : s = l.length := by omega
    subst e
    have hcl2 := clo_lt (nbs_lt hG) hi
    have hsz : o.length < 17592186044416 := by omega
    refine Ev.step (f := fun k => spec_paParts.l0 k (o ++ [((clo (nbs l) l.length i : Nat) : Int)]) ((d ||| clo (nbs l) l.length i : Nat) : Int) (n0 : Int) ((i + 1 : Nat) : Int) l own) (fun k => ?_) hR
    simp only [spec_paParts.l1]
    rw [if_neg (by omega), if_pos hsz, show growN (nbs l) l.length (2 ^ i) l.length = clo (nbs l) l.length i from rfl, or_nat _ _ (by omega) (by omega), wrap_succ i (by omega)]
  | q + 1, s, hq, hs => by
    have ht := hG.top
    have h16 : (2 : Nat) ^ l.length ≤ 2 ^ 16 := Nat.pow_le_pow_right (by decide) hG.top
    have hp2 : (2 : Nat) ^ i < 2 ^ l.length := Nat.pow_lt_pow_right (by decide) hi
    have ih := spec_paParts.grow l own hG o d i hi hd ho n0 R hR q (s + 1) (by omega) (by omega)
    have h2 := spec_paParts.inner l own hG o d (growN (nbs l) l.length (2 ^ i) s) s i (grow_lt (nbs_lt hG) hp2 s) (by omega) n0 R ih l.length 0 (by omega) (by omega)
    refine Ev.step (f := fun k => spec_paParts.l2 k o (d : Int) ((growN (nbs l) l.length (2 ^ i) s : Nat) : Int) (s : Int) (n0 : Int) (i : Int) l (l.length : Int) ((0 : Nat) : Int) l own) (fun k => ?_) h2
    simp only [spec_paParts.l1]
    rw [if_pos (by omega)]
    rfl
theorem spec_paParts.outer (l : List Int) (own : Bool) (hG : GoodG l) : ∀ (q t : Nat), l.length - t = q → t ≤ l.length → Ev (fun k => spec_paParts.l0 k (ints (partsUp (nbs l) l.length t).1) (((partsUp (nbs l) l.length t).2 : Nat) : Int) (l.length : Int) (t : Int) l own) (ints (partsUp (nbs l) l.length l.length).1)
  | 0, t, hq, ht => by
    have hlt := hG.top
    have e : t = l.length := by omega
    subst e
    refine now fun k => ?_
    simp only [spec_paParts.l0]
    rw [if_neg (by omega)]
  | q + 1, t, hq, ht => by
    have hlt := hG.top
    have h16 : (2 : Nat) ^ l.length ≤ 2 ^ 16 := Nat.pow_le_pow_right (by decide) hG.top
    have ih := spec_paParts.outer l own hG q (t + 1) (by omega) (by omega)
    have hI := parts_inv (nbs_lt hG) (nbs_sym hG) t ht
    have hil := hI.lt
    have hlen := hI.len
    have hin := spec_grIn.eq (((partsUp (nbs l) l.length t).2 : Nat) : Int) (t : Int) (by omega) (by omega) (by omega)
    have hbit : bit (((partsUp (nbs l) l.length t).2 : Nat) : Int) (t : Int) = (partsUp (nbs l) l.length t).2.testBit t := by unfold bit; simp
    rw [hbit] at hin
    rw [partsUp] at ih
    cases hb : (partsUp (nbs l) l.length t).2.testBit t
    · rw [hb, if_neg (by decide)] at ih
      rw [hb] at hin
      have h2 := spec_paParts.grow l own hG (ints (partsUp (nbs l) l.length t).1) (partsUp (nbs l) l.length t).2 t (by omega) hil (by rw [ints_length]; omega) l.length _ (by rw [ints_append] at ih; exact ih) l.length 0 (by omega) (by omega)
      refine Ev.step (f := fun k => spec_paParts.l1 k (ints (partsUp (nbs l) l.length t).1) (((partsUp (nbs l) l.length t).2 : Nat) : Int) ((2 ^ t : Nat) : Int) ((0 : Nat) : Int) (l.length : Int) (t : Int) l own) (fun k => ?_) h2
      simp only [spec_paParts.l0]
      rw [if_pos (by omega), hin, Option.bind_some, if_neg (by decide), if_pos (by omega), shl_one (by omega) (by omega), Int.toNat_natCast]
      rfl
    · rw [hb, if_pos rfl] at ih
      rw [hb] at hin
      refine Ev.step (f := fun k => spec_paParts.l0 k (ints (partsUp (nbs l) l.length t).1) (((partsUp (nbs l) l.length t).2 : Nat) : Int) (l.length : Int) ((t + 1 : Nat) : Int) l own) (fun k => ?_) ih
      simp only [spec_paParts.l0]
      rw [if_pos (by omega), hin, Option.bind_some, if_pos rfl, wrap_succ t (by omega)]
theorem spec_paParts.ev (l : List Int) (own : Bool) (hG : GoodG l) : Ev (fun k => spec_paParts.f k l own) (ints (partsUp (nbs l) l.length l.length).1) := spec_paParts.outer l own hG l.length 0 (by omega) (by omega)

/-! spec_PartsOf -/
theorem spec_PartsOf.ev (l : List Int) (own : Bool) (hl : l.length < 4611686018427387904) : Ev (fun k => spec_PartsOf.f k l own) (partsR l) := by
  obtain ⟨K, hK⟩ := spec_grGood.ev l own hl
  unfold partsR
  cases e : good l
  · refine ⟨K, fun k hk => ?_⟩
    have h1 : spec_grGood.f k l own = _ := hK k hk
    show spec_PartsOf.f k l own = _
    unfold spec_PartsOf.f
    rw [h1, Option.bind_some, e]
    rfl
  · obtain ⟨K2, hK2⟩ := spec_paParts.ev l own ((good_iff l).1 e)
    refine ⟨K + K2, fun k hk => ?_⟩
    have h1 : spec_grGood.f k l own = _ := hK k (by omega)
    have h2 : spec_paParts.f k l own = _ := hK2 k (by omega)
    show spec_PartsOf.f k l own = _
    unfold spec_PartsOf.f
    rw [h1, Option.bind_some, e, if_pos rfl, h2, Option.bind_some, if_pos rfl]

/-! laws_hSame -/
theorem laws_hSame.loop (a b : List Int) (hl : a.length = b.length) (h : a.length < 4611686018427387904) (d : Nat) : ∀ i : Nat, a.length - i = d → i ≤ a.length → Ev (fun k => laws_hSame.l0 k a b (a.length : Int) (i : Int)) (decide (a.drop i = b.drop i)) := by
  induction d with
  | zero =>
    intro i hd hi
    refine now fun k => ?_
    simp only [laws_hSame.l0]
    rw [if_neg (by omega), List.drop_eq_nil_of_le (by omega), List.drop_eq_nil_of_le (by omega)]
    rfl
  | succ d ih =>
    intro i hd hi
    have hlt : i < a.length := by omega
    have hltb : i < b.length := by omega
    rw [drop_cons a i hlt, drop_cons b i hltb]
    by_cases e : a[i] = b[i]
    · have := ih (i + 1) (by omega) (by omega)
      refine Ev.step (f := fun k => laws_hSame.l0 k a b (a.length : Int) ((i + 1 : Nat) : Int)) (fun k => ?_) (by rw [show decide (a[i] :: a.drop (i + 1) = b[i] :: b.drop (i + 1)) = decide (a.drop (i + 1) = b.drop (i + 1)) by simp only [List.cons.injEq, e, true_and]]; exact this)
      simp only [laws_hSame.l0]
      rw [if_pos (by omega), if_pos (by omega), if_pos (by omega), if_pos (by omega), rd_get a i hlt, rd_get b i hltb, if_pos e, wrap_succ i (by omega)]
    · refine now fun k => ?_
      simp only [laws_hSame.l0]
      rw [if_pos (by omega), if_pos (by omega), if_pos (by omega), if_pos (by omega), rd_get a i hlt, rd_get b i hltb, if_neg e, show decide (a[i] :: a.drop (i + 1) = b[i] :: b.drop (i + 1)) = false by simp only [List.cons.injEq, e, false_and, decide_false]]
theorem laws_hSame.ev (a b : List Int) (h : a.length < 4611686018427387904) : Ev (fun k => laws_hSame.f k a b) (decide (a = b)) := by
  by_cases hl : a.length = b.length
  · have := laws_hSame.loop a b hl h a.length 0 (by omega) (by omega)
    refine Ev.congr (f := fun k => laws_hSame.l0 k a b (a.length : Int) ((0 : Nat) : Int)) (fun k => ?_) (by simpa using this)
    unfold laws_hSame.f
    rw [if_pos (by omega)]
    rfl
  · refine always fun k => ?_
    unfold laws_hSame.f
    rw [if_neg (by omega)]
    have : ¬ a = b := fun e => hl (by rw [e])
    simp [this]
end Go.Proofs.Ytlioggjncgfioaa.Pure
