/- What the functions of FnSplitsOfGraphs compute, in plain words. -/
import Derived.Test.YtlohlngmagpepaaGreatPFnSplitsOfGraphsx
import Derived.Test.YtlohlngmagpepaaGreatM1
import Derived.Test.YtlohlngmagpepaaGreatM2
import Derived.Test.YtlohlngmagpepaaGreatM3
import Derived.Test.YtlohlngmagpepaaGreatM4
import Derived.Test.YtlohlngmagpepaaGreatM5
import Derived.Test.YtlohlngmagpepaaGreatM6
import Derived.Test.YtlohlngmagpepaaGreatM7
import Derived.Test.YtlohlngmagpepaaGreatM8
import Derived.Test.YtlohlngmagpepaaGreatM9
import Derived.Test.YtlohlngmagpepaaGreatM10
import Derived.Test.YtlohlngmagpepaaGreatM12
import Derived.Test.YtlohlngmagpepaaGreatM15
import Derived.Test.YtlohlngmagpepaaGreatM17
import Derived.Test.YtlohlngmagpepaaGreatM20
import Derived.Test.YtlohlngmagpepaaGreatM21
import Derived.Test.YtlohlngmagpepaaGreatM22
import Derived.Test.YtlohlngmagpepaaGreatM23
import Derived.Test.YtlohlngmagpepaaGreatM25
import Derived.Test.YtlohlngmagpepaaGreatM26
import Derived.Test.YtlohlngmagpepaaGreatM27
import Derived.Test.YtlohlngmagpepaaGreatM28
import Derived.Test.YtlohlngmagpepaaGreatM29
import Derived.Test.YtlohlngmagpepaaGreatM30
import Derived.Test.YtlohlngmagpepaaGreatM31
import Derived.Test.YtlohlngmagpepaaGreatM34
import Derived.Test.YtlohlngmagpepaaGreatM35
import Derived.Test.YtlohlngmagpepaaGreatM36
import Derived.Test.YtlohlngmagpepaaGreatM37
import Derived.Test.YtlohlngmagpepaaGreatM40
import Derived.Test.YtlohlngmagpepaaGreatM41
import Derived.Test.YtlohlngmagpepaaGreatQFnSplitsOfGraphs0
namespace Go.Proofs.YtlohlngmagpepaaGreat.Pure
open Go.RowKit Go.Proofs.YtlohlngmagpepaaGreat.PFnSplitsOfGraphs Go.Proofs.YtlohlngmagpepaaGreatW.PrintWords Go.Proofs.YtlohlngmagpepaaGreatW.PrintLast Go.Proofs.YtlohlngmagpepaaGreatW.PrintMore Go.Proofs.YtlohlngmagpepaaGreatM
set_option linter.unusedVariables false
set_option linter.unusedSimpArgs false
/-! impl_DegreesWithin -/
theorem impl_DegreesWithin.loop (l : List Int) (hG : GoodG l) (s : Nat) (hs : s < 2 ^ l.length) : ∀ (d t : Nat), l.length - t = d → t ≤ l.length → Ev (fun k => impl_DegreesWithin.l0 k (s : Int) (ints (degP l s t)) l (l.length : Int) (t : Int)) (ints (degP l s l.length), true)
  | 0, t, hd, ht => by
    have e : t = l.length := by omega
    subst e
    refine now fun k => ?_
    simp only [impl_DegreesWithin.l0]
    rw [if_neg (by omega)]
  | d + 1, t, hd, ht => by
    have h16 : (2 : Nat) ^ l.length ≤ 2 ^ 16 := Nat.pow_le_pow_right (by decide) hG.top
    have htop := hG.top
    have hlt : t < l.length := by omega
    have ih := impl_DegreesWithin.loop l hG s hs d (t + 1) (by omega) (by omega)
    have hn := nb_lt hG hlt
    have hx := hG.sets (rd l (t : Int)) (rd_mem l _ (by omega) (by omega))
    have hrd : rd l (t : Int) = ((nb l t : Nat) : Int) := by unfold nb; omega
    have hin := impl_has.eq (s : Int) (t : Int) (by omega) (by omega) (by omega)
    have hbit : bit (s : Int) (t : Int) = s.testBit t := by unfold bit; simp
    rw [hbit] at hin
    have hand : (nb l t &&& s) < 2 ^ l.length := Nat.lt_of_le_of_lt Nat.and_le_right hs
    have hc := impl_count.eq (((nb l t &&& s : Nat)) : Int) (by omega) (by omega)
    rw [Int.toNat_natCast] at hc
    have hlen := degP_len l s t
    refine Ev.step (f := fun k => impl_DegreesWithin.l0 k (s : Int) (ints (degP l s (t + 1))) l (l.length : Int) ((t + 1 : Nat) : Int)) (fun k => ?_) ih
    simp only [impl_DegreesWithin.l0]
    rw [if_pos (by omega), if_pos (by omega), if_pos (by omega), hin, Option.bind_some, hrd, and_nat _ _ (by omega) (by omega), hc, Option.bind_some, wrap_succ t (by omega), if_pos (by rw [ints_length]; omega : (ints (degP l s t)).length < 17592186044416)]
    rw [show degP l s (t + 1) = if s.testBit t = true then degP l s t ++ [pop (nb l t &&& s)] else degP l s t from rfl]
    cases s.testBit t
    · rfl
    · rw [if_pos rfl, if_pos rfl, ints_append]
      rfl
theorem impl_DegreesWithin.ev (l : List Int) (own : Bool) (s : Int) : Ev (fun k => impl_DegreesWithin.f k l own s) (degR l s) := by
  obtain ⟨K, hK⟩ := impl_isSet.ev l own [s]
  have ea : (good l && [s].all (inSet l.length)) = (good l && inSet l.length s) := by simp
  rw [ea] at hK
  unfold degR boardOk
  cases e : (good l && inSet l.length s)
  · refine ⟨K, fun k hk => ?_⟩
    have h1 : impl_isSet.f k l own [s] = _ := hK k hk
    show impl_DegreesWithin.f k l own s = _
    unfold impl_DegreesWithin.f
    rw [h1, Option.bind_some, e]
    rfl
  · obtain ⟨hG, hs⟩ := boardOk_of (l := l) (s := s) e
    obtain ⟨h0, h1, h2⟩ := inSet_lt hs
    have hc := pow_cast l.length
    obtain ⟨t, rfl⟩ := Int.eq_ofNat_of_zero_le h0
    obtain ⟨K2, hK2⟩ := impl_DegreesWithin.loop l hG t (by omega) l.length 0 (by omega) (by omega)
    refine ⟨K + K2, fun k hk => ?_⟩
    have c1 : impl_isSet.f k l own [(t : Int)] = _ := hK k (by omega)
    have c2 : impl_DegreesWithin.l0 k (t : Int) [] l (l.length : Int) 0 = _ := hK2 k (by omega)
    show impl_DegreesWithin.f k l own (t : Int) = _
    unfold impl_DegreesWithin.f
    rw [c1, Option.bind_some, e, if_pos rfl, c2, if_pos rfl, Int.toNat_natCast]

/-! spec_DegreesWithin -/
theorem spec_DegreesWithin.loop (l : List Int) (own : Bool) (hG : GoodG l) (s : Nat) (hs : s < 2 ^ l.length) : ∀ (d t : Nat), l.length - t = d → t ≤ l.length → Ev (fun k => spec_DegreesWithin.l0 k (s : Int) (ints (degP l s t)) (l.length : Int) (t : Int) l own) (ints (degP l s l.length), true)
  | 0, t, hd, ht => by
    have e : t = l.length := by omega
    subst e
    refine now fun k => ?_
    simp only [spec_DegreesWithin.l0]
    rw [if_neg (by omega)]
  | d + 1, t, hd, ht => by
    have h16 : (2 : Nat) ^ l.length ≤ 2 ^ 16 := Nat.pow_le_pow_right (by decide) hG.top
    have htop := hG.top
    have hlt : t < l.length := by omega
    obtain ⟨K2, hK2⟩ := spec_DegreesWithin.loop l own hG s hs d (t + 1) (by omega) (by omega)
    have hin := spec_grIn.eq (s : Int) (t : Int) (by omega) (by omega) (by omega)
    have hbit : bit (s : Int) (t : Int) = s.testBit t := by unfold bit; simp
    rw [hbit] at hin
    obtain ⟨K, hK⟩ := spec_paDegree.ev l own hG s t hlt hs
    have hlen := degP_len l s t
    refine ⟨K + K2 + 1, fun k hk => ?_⟩
    obtain ⟨k, rfl⟩ : ∃ k', k = k' + 1 := ⟨k - 1, by omega⟩
    have h1 : spec_paDegree.f k l own (s : Int) (t : Int) = _ := hK k (by omega)
    have h2 : spec_DegreesWithin.l0 k (s : Int) (ints (degP l s (t + 1))) (l.length : Int) ((t + 1 : Nat) : Int) l own = _ := hK2 k (by omega)
    simp only [spec_DegreesWithin.l0]
    rw [if_pos (by omega), hin, Option.bind_some, h1, Option.bind_some, wrap_succ t (by omega), if_pos (by rw [ints_length]; omega : (ints (degP l s t)).length < 17592186044416)]
    rw [show degP l s (t + 1) = if s.testBit t = true then degP l s t ++ [pop (nb l t &&& s)] else degP l s t from rfl] at h2
    cases e : s.testBit t
    · rw [e, if_neg (by decide)] at h2
      exact h2
    · rw [e, if_pos rfl, ints_append] at h2
      exact h2
theorem spec_DegreesWithin.ev (l : List Int) (own : Bool) (s : Int) (h : l.length < 4611686018427387904) : Ev (fun k => spec_DegreesWithin.f k l own s) (degR l s) := by
  obtain ⟨K, hK⟩ := ev_get (spec_grSet.ev l own s h)
  unfold degR boardOk
  cases e : (good l && inSet l.length s)
  · refine ⟨K, fun k hk => ?_⟩
    have h1 : spec_grSet.f k l own s = _ := hK k hk
    show spec_DegreesWithin.f k l own s = _
    unfold spec_DegreesWithin.f
    rw [h1, Option.bind_some, e]
    rfl
  · obtain ⟨hG, hs⟩ := boardOk_of (l := l) (s := s) e
    obtain ⟨h0, h1, h2⟩ := inSet_lt hs
    have hc := pow_cast l.length
    obtain ⟨t, rfl⟩ := Int.eq_ofNat_of_zero_le h0
    obtain ⟨K2, hK2⟩ := spec_DegreesWithin.loop l own hG t (by omega) l.length 0 (by omega) (by omega)
    refine ⟨K + K2, fun k hk => ?_⟩
    have c1 : spec_grSet.f k l own (t : Int) = _ := hK k (by omega)
    have c2 : spec_DegreesWithin.l0 k (t : Int) [] (l.length : Int) 0 l own = _ := hK2 k (by omega)
    show spec_DegreesWithin.f k l own (t : Int) = _
    unfold spec_DegreesWithin.f
    rw [c1, Option.bind_some, e, if_pos rfl, c2, if_pos rfl, Int.toNat_natCast]

/-! laws_hSum -/
theorem laws_hSum.loop (l : List Nat) (h : l.length < 4611686018427387904) : ∀ (d i c : Nat), l.length - i = d → i ≤ l.length → c + (l.drop i).sum < 4611686018427387904 → Ev (fun k => laws_hSum.l0 k (c : Int) (ints l) (l.length : Int) (i : Int)) ((c + (l.drop i).sum : Nat) : Int)
  | 0, i, c, hd, hi, hs => by
    refine now fun k => ?_
    simp only [laws_hSum.l0]
    rw [if_neg (by omega), List.drop_eq_nil_of_le (by omega)]
    simp
  | d + 1, i, c, hd, hi, hs => by
    have hlt : i < l.length := by omega
    rw [drop_cons l i hlt, List.sum_cons] at hs ⊢
    have ih := laws_hSum.loop l h d (i + 1) (c + l[i]) (by omega) (by omega) (by omega)
    refine Ev.step (f := fun k => laws_hSum.l0 k ((c + l[i] : Nat) : Int) (ints l) (l.length : Int) ((i + 1 : Nat) : Int)) (fun k => ?_) (by rw [← Nat.add_assoc]; exact ih)
    simp only [laws_hSum.l0]
    rw [if_pos (by omega), if_pos (by omega), if_pos (by rw [ints_length]; omega), ints_get l i hlt, wrap_succ i (by omega), wrap_id (by omega) (by omega)]
    rfl
theorem laws_hSum.ev (l : List Nat) (h : l.length < 4611686018427387904) (hs : l.sum < 4611686018427387904) : Ev (fun k => laws_hSum.f k (ints l)) (l.sum : Int) := by
  have h0 := laws_hSum.loop l h l.length 0 0 (by omega) (by omega) (by simpa using hs)
  refine Ev.congr (f := fun k => laws_hSum.l0 k ((0 : Nat) : Int) (ints l) (l.length : Int) ((0 : Nat) : Int)) (fun k => ?_) (by simpa using h0)
  unfold laws_hSum.f
  rw [ints_length]
  rfl
end Go.Proofs.YtlohlngmagpepaaGreat.Pure
