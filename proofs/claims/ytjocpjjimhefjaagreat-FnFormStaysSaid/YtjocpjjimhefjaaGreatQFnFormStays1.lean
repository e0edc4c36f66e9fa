/- What the functions of FnFormStays compute, in plain words. -/
import Derived.Test.YtjocpjjimhefjaaGreatPFnFormStaysx
import Derived.Test.YtjocpjjimhefjaaGreatM1
import Derived.Test.YtjocpjjimhefjaaGreatM2
import Derived.Test.YtjocpjjimhefjaaGreatM3
import Derived.Test.YtjocpjjimhefjaaGreatM4
import Derived.Test.YtjocpjjimhefjaaGreatM5
import Derived.Test.YtjocpjjimhefjaaGreatM6
import Derived.Test.YtjocpjjimhefjaaGreatM7
import Derived.Test.YtjocpjjimhefjaaGreatM8
import Derived.Test.YtjocpjjimhefjaaGreatM9
import Derived.Test.YtjocpjjimhefjaaGreatM10
import Derived.Test.YtjocpjjimhefjaaGreatM12
import Derived.Test.YtjocpjjimhefjaaGreatM15
import Derived.Test.YtjocpjjimhefjaaGreatM17
import Derived.Test.YtjocpjjimhefjaaGreatM20
import Derived.Test.YtjocpjjimhefjaaGreatQFnFormStays0
namespace Go.Proofs.YtjocpjjimhefjaaGreat.Pure
open Go.RowKit Go.Proofs.YtjocpjjimhefjaaGreat.PFnFormStays Go.Proofs.YtjocpjjimhefjaaGreatW.PrintWords Go.Proofs.YtjocpjjimhefjaaGreatW.PrintLast Go.Proofs.YtjocpjjimhefjaaGreatW.PrintMore Go.Proofs.YtjocpjjimhefjaaGreatM
set_option linter.unusedVariables false
set_option linter.unusedSimpArgs false
theorem impl_Graph_orbit.inn_eq (mv : Int → Int → Option Int) (m : Nat → Nat → Nat) (n : Nat) (hn : n ≤ 9) (hm : ∀ s i : Nat, s < 2 ^ n → i < n → mv (s : Int) (i : Int) = some (m s i : Int)) (hb : ∀ s i : Nat, s < 2 ^ n → i < n → m s i < 2 ^ n) (s : Nat) (hs : s < 2 ^ n) :
    ∀ (d i : Nat) (out : List Nat), i + d ≤ n → OrbOk (2 ^ n) out → impl_Graph_orbit.inn mv (s : Int) d i (ints out) = some (ints (orbIn m s d i out))
  | 0, i, out, _, _ => rfl
  | d + 1, i, out, hd, ho => by
    have hp := pow9 hn
    have ht := hb s i hs (by omega)
    have hl := ho.length
    have ih := impl_Graph_orbit.inn_eq mv m n hn hm hb s hs d (i + 1) (if out.contains (m s i) = true then out else out ++ [m s i]) (by omega) (ho.more ht)
    unfold impl_Graph_orbit.inn orbIn
    rw [hm s i hs (by omega), Option.bind_some, if_pos (wf_small (by omega) (by omega)), ints_contains]
    split
    · next e => rw [if_pos e] at ih; exact ih
    · next e =>
      rw [if_neg e, ints_append] at ih
      rw [if_pos (by rw [ints_length]; omega)]
      exact ih
theorem impl_Graph_orbit.go_eq (mv : Int → Int → Option Int) (m : Nat → Nat → Nat) (n : Nat) (hn : n ≤ 9) (hm : ∀ s i : Nat, s < 2 ^ n → i < n → mv (s : Int) (i : Int) = some (m s i : Int)) (hb : ∀ s i : Nat, s < 2 ^ n → i < n → m s i < 2 ^ n) :
    ∀ (f k : Nat) (out : List Nat), k + f = 2 ^ n → OrbOk (2 ^ n) out → impl_Graph_orbit.go mv n (f + 1) k (ints out) = some (ints (orbGo m n f k out))
  | 0, k, out, hk, ho => by
    have hl := ho.length
    unfold impl_Graph_orbit.go orbGo
    rw [if_neg (by rw [ints_length]; omega)]
  | f + 1, k, out, hk, ho => by
    unfold impl_Graph_orbit.go orbGo
    rw [ints_length]
    by_cases h : k < out.length
    · have hs := ho.low _ (List.getElem_mem h)
      rw [if_pos h, dif_pos h, ints_get out k h, impl_Graph_orbit.inn_eq mv m n hn hm hb out[k] hs n 0 out (by omega) ho, Option.bind_some]
      exact impl_Graph_orbit.go_eq mv m n hn hm hb f (k + 1) _ (by omega) (orbIn_ok n 0 out (fun j _ hj => hb _ _ hs (by omega)) ho)
    · rw [if_neg h, dif_neg h]
theorem impl_Graph_orbit.ev (mv : Int → Int → Option Int) (m : Nat → Nat → Nat) (l : List Int) (hn : l.length ≤ 9) (hm : ∀ s i : Nat, s < 2 ^ l.length → i < l.length → mv (s : Int) (i : Int) = some (m s i : Int)) (hb : ∀ s i : Nat, s < 2 ^ l.length → i < l.length → m s i < 2 ^ l.length) (s : Nat) (hs : s < 2 ^ l.length) :
    Ev (fun k => impl_Graph_orbit.f k mv l (s : Int)) (ints (rising (2 ^ l.length) (orbL m l.length s))) := by
  have hp := pow9 hn
  have ho : OrbOk (2 ^ l.length) [s] := ⟨by simp, fun x hx => by rw [List.mem_singleton.1 hx]; exact hs⟩
  have hok := orbL_ok hb hs
  refine ⟨2 ^ l.length + 1, fun k hk => ?_⟩
  have h1 : impl_Graph_orbit.go mv l.length k 0 [(s : Int)] = some (ints (orbL m l.length s)) := at_rounds (g := fun k => impl_Graph_orbit.go mv l.length k 0 [(s : Int)]) (fun k => impl_Graph_orbit.go_mono (fun _ _ => LeO.refl _) _ k 0 _) hk (impl_Graph_orbit.go_eq mv m l.length hn hm hb (2 ^ l.length) 0 [s] (by omega) ho)
  show impl_Graph_orbit.f k mv l (s : Int) = _
  unfold impl_Graph_orbit.f
  rw [if_pos (wf_small (by omega) (by omega)), h1, Option.bind_some]
  unfold slices_Sort_int_int.f
  have := hok.length
  rw [if_pos (by rw [ints_length]; omega), sort_orbit hok]
theorem impl_Graph_reflect.move (l : List Int) (own : Bool) (hG : GoodG l) (s i : Nat) (hs : s < 2 ^ l.length) (hi : i < l.length) : impl_Graph_reflect.f l own (s : Int) (i : Int) = some (moveOf l true s i : Int) := by
  have hc := pow_cast l.length
  have hb := reflOne_bounds l (s : Int) (i : Int) (by omega) (by omega) (by omega) (by omega)
  rw [impl_Graph_reflect.eq l own hG (s : Int) (i : Int) (by omega) (by omega) (by omega) (by omega)]
  unfold moveOf
  rw [if_pos rfl, Int.toNat_of_nonneg hb.1]
theorem impl_ReflectOrbit.ev (l : List Int) (own : Bool) (s : Int) : Ev (fun k => impl_ReflectOrbit.f k l own s) (if (good l && decide (l.length ≤ 9) && inSet l.length s) = true then (ints (orbitOf l true s.toNat), true) else ([], false)) := by
  obtain ⟨K, hK⟩ := impl_isLit.ev l own [s]
  have ea : (good l && [s].all (inSet l.length) && decide (l.length ≤ 9)) = (good l && decide (l.length ≤ 9) && inSet l.length s) := by
    simp only [List.all_cons, List.all_nil, Bool.and_true]
    cases good l <;> cases inSet l.length s <;> cases decide (l.length ≤ 9) <;> rfl
  rw [ea] at hK
  cases e1 : (good l && decide (l.length ≤ 9) && inSet l.length s)
  · refine ⟨K, fun k hk => ?_⟩
    have h1 : impl_isLit.f k l own [s] = _ := hK k hk
    show impl_ReflectOrbit.f k l own s = _
    unfold impl_ReflectOrbit.f
    rw [h1, Option.bind_some, e1]
    rfl
  · have e1' := e1
    simp only [Bool.and_eq_true, decide_eq_true_eq] at e1'
    have hG : GoodG l := (good_iff l).1 e1'.1.1
    have hs : 0 ≤ s ∧ s < 2 ^ l.length := by simpa [inSet] using e1'.2
    obtain ⟨t, rfl⟩ := Int.eq_ofNat_of_zero_le hs.1
    have hc := pow_cast l.length
    have ht : t < 2 ^ l.length := by omega
    obtain ⟨K2, hK2⟩ := impl_Graph_orbit.ev (fun s i => impl_Graph_reflect.f l own s i) (moveOf l true) l e1'.1.2 (fun s i hs hi => impl_Graph_reflect.move l own hG s i hs hi) (fun s i hs hi => moveOf_lt l hG true s i hs hi) t ht
    refine ⟨K + K2, fun k hk => ?_⟩
    have h1 : impl_isLit.f k l own [(t : Int)] = _ := hK k (by omega)
    have h2 : impl_Graph_orbit.f k (fun s i => impl_Graph_reflect.f l own s i) l (t : Int) = _ := hK2 k (by omega)
    show impl_ReflectOrbit.f k l own (t : Int) = _
    unfold impl_ReflectOrbit.f
    rw [h1, Option.bind_some, e1, if_pos rfl, h2, Option.bind_some]
    rfl
def meet (out : List Nat) (t : Nat) : List Nat := if out.contains t = true then out else out ++ [t]
theorem spec_liReach.step (l : List Int) (own r : Bool) (hG : GoodG l) (hn : l.length ≤ 9) (out : List Nat) (ho : OrbOk (2 ^ l.length) out) (kk i : Nat) (hk : kk < out.length) (hi : i < l.length) :
    ∃ K, ∀ k, K ≤ k → spec_liReach.l1 (k + 1) r (marksOf (2 ^ l.length) out) (ints out) (kk : Int) l (l.length : Int) (i : Int) l own = spec_liReach.l1 k r (marksOf (2 ^ l.length) (meet out (moveOf l r out[kk] i))) (ints (meet out (moveOf l r out[kk] i))) (kk : Int) l (l.length : Int) ((i + 1 : Nat) : Int) l own := by
  have hp := pow9 hn
  have hc := pow_cast l.length
  have hs := ho.low _ (List.getElem_mem hk)
  have hl := ho.length
  have ht := moveOf_lt l hG r out[kk] i hs hi
  have hx := hG.sets (rd l (i : Int)) (rd_mem l _ (by omega) (by omega))
  have h16 := pow16 hG.top
  obtain ⟨K, hK⟩ := spec_liReflect.ev l own hG (out[kk] : Int) (i : Int) (by omega) (by omega) (by omega) (by omega)
  refine ⟨K, fun k hkk => ?_⟩
  have hR : spec_liReflect.f k l own (out[kk] : Int) (i : Int) = _ := hK k hkk
  have hb := reflOne_bounds l (out[kk] : Int) (i : Int) (by omega) (by omega) (by omega) (by omega)
  have hin := spec_grIn.eq (out[kk] : Int) (i : Int) (by omega) (by omega) (by omega)
  have fin : ∀ t : Nat, t < 2 ^ l.length → (if 0 ≤ (t : Int) then (if (t : Int) < ((marksOf (2 ^ l.length) out).length : Int) then (if rdOf false (marksOf (2 ^ l.length) out) (t : Int) = true then (spec_liReach.l1 k r (marksOf (2 ^ l.length) out) (ints out) (kk : Int) l (l.length : Int) ((i + 1 : Nat) : Int) l own) else (if (ints out).length < 17592186044416 then (spec_liReach.l1 k r ((marksOf (2 ^ l.length) out).set (t : Int).toNat true) (ints out ++ [(t : Int)]) (kk : Int) l (l.length : Int) ((i + 1 : Nat) : Int) l own) else (none))) else (none)) else (none)) = spec_liReach.l1 k r (marksOf (2 ^ l.length) (meet out t)) (ints (meet out t)) (kk : Int) l (l.length : Int) ((i + 1 : Nat) : Int) l own := by
    intro t ht
    have e1 : rdOf false (marksOf (2 ^ l.length) out) (t : Int) = out.contains t := marksOf_get _ _ _ ht
    rw [if_pos (by omega), if_pos (by rw [marksOf_length]; omega), e1]
    unfold meet
    split
    · rfl
    · rw [if_pos (by rw [ints_length]; omega), Int.toNat_natCast, marksOf_set _ _ _ ht, ints_append]
      rfl
  simp only [spec_liReach.l1]
  rw [if_pos (by omega), if_pos (by omega), if_pos (by omega), if_pos (by omega), if_pos (by rw [ints_length]; omega), ints_get out kk hk, wrap_succ i (by omega)]
  cases r
  · have em : moveOf l false out[kk] i = if out[kk].testBit i = true then out[kk] ^^^ (rd l (i : Int)).toNat else out[kk] := rfl
    rw [em] at ht ⊢
    rw [if_neg (show ¬ (false = true) by decide), hin, Option.bind_some, show bit (out[kk] : Int) (i : Int) = out[kk].testBit i from rfl]
    cases hb : out[kk].testBit i
    · rw [hb, if_neg (by decide)] at ht
      simp only [Bool.false_eq_true, if_false]
      exact fin _ ht
    · rw [hb, if_pos rfl] at ht
      simp only [if_true]
      rw [xor_eq (by omega) (by omega) hx.1 (by omega)]
      exact fin _ ht
  · have em : moveOf l true out[kk] i = (reflOne l (out[kk] : Int) (i : Int)).toNat := rfl
    rw [em] at ht ⊢
    rw [if_pos rfl, hR, Option.bind_some]
    have e2 : reflOne l (out[kk] : Int) (i : Int) = (((reflOne l (out[kk] : Int) (i : Int)).toNat : Nat) : Int) := (Int.toNat_of_nonneg hb.1).symm
    generalize (reflOne l (out[kk] : Int) (i : Int)).toNat = t at ht e2 ⊢
    rw [e2]
    exact fin t ht
theorem orbIn_get {mv : Nat → Nat → Nat} (s : Nat) (d i : Nat) (out : List Nat) (kk : Nat) (hk : kk < out.length) : ∃ h : kk < (meet out (mv s i)).length, (meet out (mv s i))[kk] = out[kk] := by
  unfold meet
  split
  · exact ⟨hk, rfl⟩
  · exact ⟨by simp; omega, by rw [List.getElem_append_left hk]⟩
theorem spec_liReach.inner (l : List Int) (own r : Bool) (hG : GoodG l) (hn : l.length ≤ 9) (kk : Nat) (R : List Int) (s : Nat) (fin : List Nat) (hfin : Ev (fun k => spec_liReach.l0 k r (marksOf (2 ^ l.length) fin) (ints fin) ((kk + 1 : Nat) : Int) l own) R) :
    ∀ (d i : Nat) (out : List Nat), i + d = l.length → OrbOk (2 ^ l.length) out → (∃ h : kk < out.length, out[kk] = s) → orbIn (moveOf l r) s d i out = fin →
      Ev (fun k => spec_liReach.l1 k r (marksOf (2 ^ l.length) out) (ints out) (kk : Int) l (l.length : Int) (i : Int) l own) R
  | 0, i, out, hd, ho, hk, hf => by
    obtain ⟨hk, rfl⟩ := hk
    have hp := pow9 hn
    have hl := ho.length
    have : out = fin := hf
    subst this
    refine Ev.step (f := fun k => spec_liReach.l0 k r (marksOf (2 ^ l.length) out) (ints out) ((kk + 1 : Nat) : Int) l own) (fun k => ?_) hfin
    simp only [spec_liReach.l1]
    rw [if_neg (by omega), wrap_succ kk (by omega)]
  | d + 1, i, out, hd, ho, hk, hf => by
    obtain ⟨hk, hs⟩ := hk
    have hlow := ho.low _ (List.getElem_mem hk)
    have ht := moveOf_lt l hG r out[kk] i hlow (by omega)
    obtain ⟨K1, hK1⟩ := spec_liReach.step l own r hG hn out ho kk i hk (by omega)
    have hg := orbIn_get (mv := moveOf l r) s d i out kk hk
    subst hs
    obtain ⟨K2, hK2⟩ := spec_liReach.inner l own r hG hn kk R out[kk] fin hfin d (i + 1) (meet out (moveOf l r out[kk] i)) (by omega) (ho.more ht) hg hf
    refine ⟨K1 + K2 + 1, fun k hkk => ?_⟩
    obtain ⟨j, rfl⟩ : ∃ j, k = j + 1 := ⟨k - 1, by omega⟩
    show spec_liReach.l1 (j + 1) r (marksOf (2 ^ l.length) out) (ints out) (kk : Int) l (l.length : Int) (i : Int) l own = _
    rw [hK1 j (by omega)]
    exact hK2 j (by omega)
theorem spec_liReach.tail (N : Nat) (hN : N ≤ 512) (out : List Nat) : ∀ (d i : Nat) (o : List Int), i + d = N → o.length ≤ i → Ev (fun k => spec_liReach.l2 k o (marksOf N out) (N : Int) (i : Int)) (o ++ ints ((List.range' i d).filter fun x => out.contains x))
  | 0, i, o, hd, ho => by
    refine now fun k => ?_
    simp only [spec_liReach.l2]
    rw [if_neg (by omega)]
    simp [ints]
  | d + 1, i, o, hd, ho => by
    have e1 : rdOf false (marksOf N out) (i : Int) = out.contains i := marksOf_get _ _ _ (by omega)
    rw [List.range'_succ, List.filter_cons]
    cases e : out.contains i
    · refine Ev.step (f := fun k => spec_liReach.l2 k o (marksOf N out) (N : Int) ((i + 1 : Nat) : Int)) (fun k => ?_) (by simpa using spec_liReach.tail N hN out d (i + 1) o (by omega) (by omega))
      simp only [spec_liReach.l2]
      rw [if_pos (by omega), if_pos (by omega), if_pos (by rw [marksOf_length]; omega), e1, e, if_neg (by decide), wrap_succ i (by omega)]
    · refine Ev.step (f := fun k => spec_liReach.l2 k (o ++ [(i : Int)]) (marksOf N out) (N : Int) ((i + 1 : Nat) : Int)) (fun k => ?_) (by
        have := spec_liReach.tail N hN out d (i + 1) (o ++ [(i : Int)]) (by omega) (by simp; omega)
        rw [List.append_assoc] at this
        simpa [ints] using this)
      simp only [spec_liReach.l2]
      rw [if_pos (by omega), if_pos (by omega), if_pos (by rw [marksOf_length]; omega), e1, e, if_pos rfl, if_pos (by omega), wrap_succ i (by omega)]
theorem spec_liReach.outer (l : List Int) (own r : Bool) (hG : GoodG l) (hn : l.length ≤ 9) (R : List Nat) (hR : ∀ out, out = R → Ev (fun k => spec_liReach.l2 k [] (marksOf (2 ^ l.length) out) (((marksOf (2 ^ l.length) out).length : Nat) : Int) 0) (ints (rising (2 ^ l.length) R))) :
    ∀ (f kk : Nat) (out : List Nat), kk + f = 2 ^ l.length → OrbOk (2 ^ l.length) out → orbGo (moveOf l r) l.length f kk out = R → Ev (fun k => spec_liReach.l0 k r (marksOf (2 ^ l.length) out) (ints out) (kk : Int) l own) (ints (rising (2 ^ l.length) R))
  | 0, kk, out, hf, ho, hR0 => by
    have hl := ho.length
    refine Ev.step (f := fun k => spec_liReach.l2 k [] (marksOf (2 ^ l.length) out) (((marksOf (2 ^ l.length) out).length : Nat) : Int) 0) (fun k => ?_) (hR out hR0)
    simp only [spec_liReach.l0]
    rw [if_neg (by rw [ints_length]; omega)]
  | f + 1, kk, out, hf, ho, hR0 => by
    unfold orbGo at hR0
    by_cases h : kk < out.length
    · rw [dif_pos h] at hR0
      have hs := ho.low _ (List.getElem_mem h)
      have ho2 := orbIn_ok l.length 0 out (fun j _ hj => moveOf_lt l hG r out[kk] j hs (by omega)) ho
      have ih := spec_liReach.outer l own r hG hn R hR f (kk + 1) _ (by omega) ho2 hR0
      have hi := spec_liReach.inner l own r hG hn kk _ out[kk] _ ih l.length 0 out (by omega) ho ⟨h, rfl⟩ rfl
      refine Ev.step (f := fun k => spec_liReach.l1 k r (marksOf (2 ^ l.length) out) (ints out) (kk : Int) l (l.length : Int) ((0 : Nat) : Int) l own) (fun k => ?_) hi
      simp only [spec_liReach.l0]
      rw [if_pos (by rw [ints_length]; omega)]
      rfl
    · rw [dif_neg h] at hR0
      refine Ev.step (f := fun k => spec_liReach.l2 k [] (marksOf (2 ^ l.length) out) (((marksOf (2 ^ l.length) out).length : Nat) : Int) 0) (fun k => ?_) (hR out hR0)
      simp only [spec_liReach.l0]
      rw [if_neg (by rw [ints_length]; omega)]
theorem spec_liReach.ev (l : List Int) (own r : Bool) (hG : GoodG l) (hn : l.length ≤ 9) (s : Nat) (hs : s < 2 ^ l.length) : Ev (fun k => spec_liReach.f k l own (s : Int) r) (ints (orbitOf l r s)) := by
  have hp := pow9 hn
  have e0 : shl .i64 1 (l.length : Int) = ((2 ^ l.length : Nat) : Int) := by rw [shl_one (by omega) (by omega), Int.toNat_natCast]
  have ho : OrbOk (2 ^ l.length) [s] := ⟨by simp, fun x hx => by rw [List.mem_singleton.1 hx]; exact hs⟩
  have hm : (List.replicate (2 ^ l.length) false).set s true = marksOf (2 ^ l.length) [s] := by
    have h1 : List.replicate (2 ^ l.length) false = marksOf (2 ^ l.length) [] := by
      apply List.ext_getElem
      · simp [marksOf]
      · intro i h1 h2; simp [marksOf]
    rw [h1, marksOf_set _ _ _ hs]
    rfl
  have main := spec_liReach.outer l own r hG hn (orbL (moveOf l r) l.length s) (fun out e => by
    subst e
    have := spec_liReach.tail (2 ^ l.length) hp (orbL (moveOf l r) l.length s) (2 ^ l.length) 0 [] (by omega) (by simp)
    rw [marksOf_length]
    rw [List.nil_append, ← List.range_eq_range'] at this
    exact this) (2 ^ l.length) 0 [s] (by omega) ho rfl
  obtain ⟨K, hK⟩ := main
  refine ⟨K, fun k hk => ?_⟩
  have h1 := hK k hk
  show spec_liReach.f k l own (s : Int) r = _
  unfold spec_liReach.f
  rw [e0, if_pos (by omega), if_pos (by rw [Int.toNat_natCast]; omega), Option.bind_some, if_pos (by omega), if_pos (by rw [List.length_replicate, Int.toNat_natCast]; omega), Int.toNat_natCast, Int.toNat_natCast, hm]
  exact h1
theorem spec_ReflectOrbit.ev (l : List Int) (own : Bool) (s : Int) (h : l.length < 4611686018427387904) : Ev (fun k => spec_ReflectOrbit.f k l own s) (if (good l && decide (l.length ≤ 9) && inSet l.length s) = true then (ints (orbitOf l true s.toNat), true) else ([], false)) := by
  obtain ⟨K, hK⟩ := spec_liSet.ev l own s h
  cases e1 : (good l && decide (l.length ≤ 9) && inSet l.length s)
  · refine ⟨K, fun k hk => ?_⟩
    have h1 : spec_liSet.f k l own s = _ := hK k hk
    show spec_ReflectOrbit.f k l own s = _
    unfold spec_ReflectOrbit.f
    rw [h1, Option.bind_some, e1]
    rfl
  · have e1' := e1
    simp only [Bool.and_eq_true, decide_eq_true_eq] at e1'
    have hG : GoodG l := (good_iff l).1 e1'.1.1
    have hs : 0 ≤ s ∧ s < 2 ^ l.length := by simpa [inSet] using e1'.2
    obtain ⟨t, rfl⟩ := Int.eq_ofNat_of_zero_le hs.1
    have hc := pow_cast l.length
    obtain ⟨K2, hK2⟩ := spec_liReach.ev l own true hG e1'.1.2 t (by omega)
    refine ⟨K + K2, fun k hk => ?_⟩
    have h1 : spec_liSet.f k l own (t : Int) = _ := hK k (by omega)
    have h2 : spec_liReach.f k l own (t : Int) true = _ := hK2 k (by omega)
    show spec_ReflectOrbit.f k l own (t : Int) = _
    unfold spec_ReflectOrbit.f
    rw [h1, Option.bind_some, e1, if_pos rfl, h2, Option.bind_some]
    rfl
theorem spec_liForm.loop (l : List Int) (own : Bool) (hG : GoodG l) (s : Int) (h0 : 0 ≤ s) (h1 : s < 2 ^ l.length) (d : Nat) :
    ∀ (i : Nat) (o : Nat), l.length - i = d → i ≤ l.length → o ≤ 1000 + i * 100 → Ev (fun k => spec_liForm.l0 k s (o : Int) l (l.length : Int) (i : Int)) (((o + meets l s i d) / 2 % 2 : Nat) : Int) := by
  have h16 := pow16 hG.top
  have ht := hG.top
  have hs : s.toNat < 2 ^ l.length := by
    have : ((2 ^ l.length : Nat) : Int) = 2 ^ l.length := by norm_cast
    omega
  induction d with
  | zero =>
    intro i o hd hi ho
    refine now fun k => ?_
    simp only [spec_liForm.l0]
    rw [if_neg (by omega), Int.tdiv_eq_ediv_of_nonneg (by omega), wrap_id (by omega) (by omega), Int.tmod_eq_emod_of_nonneg (by omega)]
    simp [meets, sumFrom]
  | succ d ih =>
    intro i o hd hi ho
    have hm := hG.sets (rd l (i : Int)) (rd_mem l _ (by omega) (by omega))
    have hin := spec_grIn.eq s (i : Int) h0 (by omega) (by omega)
    have hlt : (rd l (i : Int)).toNat &&& s.toNat < 2 ^ l.length := Nat.lt_of_le_of_lt Nat.and_le_right hs
    have hle := pop_le (k := l.length) (by omega) hlt
    have e0 : meets l s i (d + 1) = (if bit s (i : Int) = true then pop ((rd l (i : Int)).toNat &&& s.toNat) else 0) + meets l s (i + 1) d := rfl
    have hle2 : (rd l (i : Int)).toNat &&& s.toNat ≤ s.toNat := Nat.and_le_right
    cases e : bit s (i : Int)
    · rw [e0, e, if_neg (by decide), Nat.zero_add]
      refine Ev.step (f := fun k => spec_liForm.l0 k s (o : Int) l (l.length : Int) ((i + 1 : Nat) : Int)) (fun k => ?_) (ih (i + 1) o (by omega) (by omega) (by omega))
      simp only [spec_liForm.l0]
      rw [if_pos (by omega), if_pos (by omega), if_pos (by omega), hin, Option.bind_some, e, if_neg (by decide), wrap_succ i (by omega)]
    · rw [e0, e, if_pos rfl, ← Nat.add_assoc]
      obtain ⟨K, hK⟩ := ev_and (spec_grCount.ev (((rd l (i : Int)).toNat &&& s.toNat : Nat) : Int) (Int.natCast_nonneg _) (by omega)) (ih (i + 1) (o + pop ((rd l (i : Int)).toNat &&& s.toNat)) (by omega) (by omega) (by omega))
      refine ⟨K + 1, fun k hk => ?_⟩
      obtain ⟨m, rfl⟩ : ∃ m, k = m + 1 := ⟨k - 1, by omega⟩
      obtain ⟨k1, k2⟩ := hK m (by omega)
      simp only [spec_liForm.l0]
      rw [if_pos (by omega), if_pos (by omega), if_pos (by omega), hin, Option.bind_some, e, if_pos rfl, and_eq hm.1 (by omega) h0 (by omega), k1, Option.bind_some, Int.toNat_natCast, wrap_succ i (by omega), wrap_id (by omega) (by omega), ← Int.natCast_add]
      exact k2
theorem spec_liForm.ev (l : List Int) (own : Bool) (hG : GoodG l) (s : Int) (h0 : 0 ≤ s) (h1 : s < 2 ^ l.length) : Ev (fun k => spec_liForm.f k l own s) (formOf l s) := by
  have h16 := pow16 hG.top
  have ht := hG.top
  have hs : s.toNat < 2 ^ l.length := by
    have : ((2 ^ l.length : Nat) : Int) = 2 ^ l.length := by norm_cast
    omega
  have hle := pop_le (k := l.length) (by omega) hs
  obtain ⟨K, hK⟩ := ev_and (spec_grCount.ev s h0 (by omega)) (spec_liForm.loop l own hG s h0 h1 l.length 0 (2 * pop s.toNat) (by omega) (by omega) (by omega))
  refine ⟨K, fun k hk => ?_⟩
  obtain ⟨k1, k2⟩ := hK k hk
  show spec_liForm.f k l own s = _
  unfold spec_liForm.f
  rw [k1, Option.bind_some, wrap_id (by omega) (by omega), show (2 : Int) * ((pop s.toNat : Nat) : Int) = ((2 * pop s.toNat : Nat) : Int) by omega]
  have e : formOf l s = (((2 * pop s.toNat + meets l s 0 l.length) / 2 % 2 : Nat) : Int) := by
    rw [meets_twice l hG s h0 h1]
    unfold formOf
    omega
  rw [e]
  exact k2
theorem spec_FormOf.ev (l : List Int) (own : Bool) (s : Int) (h : l.length < 4611686018427387904) : Ev (fun k => spec_FormOf.f k l own s) (if (good l && decide (l.length ≤ 9) && inSet l.length s) = true then (formOf l s, true) else (0, false)) := by
  obtain ⟨K, hK⟩ := spec_liSet.ev l own s h
  cases e1 : (good l && decide (l.length ≤ 9) && inSet l.length s)
  · refine ⟨K, fun k hk => ?_⟩
    have h1 : spec_liSet.f k l own s = _ := hK k hk
    show spec_FormOf.f k l own s = _
    unfold spec_FormOf.f
    rw [h1, Option.bind_some, e1]
    rfl
  · have hG : GoodG l := (good_iff l).1 (by simp only [Bool.and_eq_true] at e1; exact e1.1.1)
    have hs : 0 ≤ s ∧ s < 2 ^ l.length := by simp only [Bool.and_eq_true] at e1; simpa [inSet] using e1.2
    obtain ⟨K2, hK2⟩ := spec_liForm.ev l own hG s hs.1 hs.2
    refine ⟨K + K2, fun k hk => ?_⟩
    have h1 : spec_liSet.f k l own s = _ := hK k (by omega)
    have h2 : spec_liForm.f k l own s = _ := hK2 k (by omega)
    show spec_FormOf.f k l own s = _
    unfold spec_FormOf.f
    rw [h1, Option.bind_some, e1, if_pos rfl, if_pos rfl, h2, Option.bind_some]
theorem impl_FormSpread.loop (l : List Int) (own : Bool) (hG : GoodG l) (h9 : l.length ≤ 9) (d : Nat) :
    ∀ (i : Nat) (o : Nat), 2 ^ l.length - i = d → i ≤ 2 ^ l.length → o ≤ i → Ev (fun k => impl_FormSpread.l0 k (o : Int) ((2 ^ l.length : Nat) : Int) (i : Int) l own) (((2 ^ l.length : Nat) : Int) - ((o + sumFrom (fun s => (formOf l (s : Int)).toNat) i d : Nat) : Int), ((o + sumFrom (fun s => (formOf l (s : Int)).toNat) i d : Nat) : Int), true) := by
  have hp : 2 ^ l.length ≤ 2 ^ 9 := Nat.pow_le_pow_right (by decide) h9
  rw [show (2 : Nat) ^ 9 = 512 from rfl] at hp
  have hc : ((2 ^ l.length : Nat) : Int) = 2 ^ l.length := by norm_cast
  have hsh : shl .i64 1 (l.length : Int) = ((2 ^ l.length : Nat) : Int) := by rw [shl_one (by omega) (by omega), Int.toNat_natCast]
  generalize hP : (2 ^ l.length : Nat) = P at *
  induction d with
  | zero =>
    intro i o hd hi ho
    refine now fun k => ?_
    simp only [impl_FormSpread.l0, sumFrom]
    rw [if_neg (by omega), hsh, wrap_id (by omega) (by omega)]
    rfl
  | succ d ih =>
    intro i o hd hi ho
    have hf := formOf_bounds l (i : Int)
    obtain ⟨K, hK⟩ := ev_and (impl_Graph_form.ev l own hG (i : Int) (by omega) (by rw [← hc]; omega)) (ih (i + 1) (o + (formOf l (i : Int)).toNat) (by omega) (by omega) (by omega))
    refine ⟨K + 1, fun k hk => ?_⟩
    obtain ⟨m, rfl⟩ : ∃ m, k = m + 1 := ⟨k - 1, by omega⟩
    obtain ⟨k1, k2⟩ := hK m (by omega)
    simp only [impl_FormSpread.l0]
    rw [if_pos (by omega), k1, Option.bind_some, wrap_succ i (by omega), wrap_id (by omega) (by omega), show (o : Int) + formOf l (i : Int) = ((o + (formOf l (i : Int)).toNat : Nat) : Int) by omega, show o + sumFrom (fun s => (formOf l (s : Int)).toNat) i (d + 1) = o + (formOf l (i : Int)).toNat + sumFrom (fun s => (formOf l (s : Int)).toNat) (i + 1) d by simp only [sumFrom]; omega]
    exact k2
theorem impl_FormSpread.ev (l : List Int) (own : Bool) : Ev (fun k => impl_FormSpread.f k l own) (formSpread l) := by
  obtain ⟨K, hK⟩ := impl_isLit.ev l own []
  have ea : (good l && ([] : List Int).all (inSet l.length) && decide (l.length ≤ 9)) = (good l && decide (l.length ≤ 9)) := by
    simp only [List.all_nil, Bool.and_true]
  rw [ea] at hK
  unfold formSpread
  cases e1 : (good l && decide (l.length ≤ 9))
  · refine ⟨K, fun k hk => ?_⟩
    have h1 : impl_isLit.f k l own [] = _ := hK k hk
    show impl_FormSpread.f k l own = _
    unfold impl_FormSpread.f
    rw [h1, Option.bind_some, e1]
    rfl
  · have e2 := e1
    simp only [Bool.and_eq_true, decide_eq_true_eq] at e2
    have hG : GoodG l := (good_iff l).1 e2.1
    obtain ⟨K2, hK2⟩ := impl_FormSpread.loop l own hG e2.2 (2 ^ l.length) 0 0 (Nat.sub_zero _) (Nat.zero_le _) (Nat.le_refl _)
    refine ⟨K + K2, fun k hk => ?_⟩
    have h1 : impl_isLit.f k l own [] = _ := hK k (by omega)
    have h2 : impl_FormSpread.l0 k 0 ((2 ^ l.length : Nat) : Int) 0 l own = _ := hK2 k (by omega)
    show impl_FormSpread.f k l own = _
    unfold impl_FormSpread.f
    rw [h1, Option.bind_some, e1, if_pos rfl, if_pos rfl, shl_one (by omega) (by omega), Int.toNat_natCast, h2, Nat.zero_add]
theorem spec_FormSpread.loop (l : List Int) (own : Bool) (hG : GoodG l) (h9 : l.length ≤ 9) (d : Nat) :
    ∀ (i : Nat) (o : Nat), 2 ^ l.length - i = d → i ≤ 2 ^ l.length → o ≤ i → Ev (fun k => spec_FormSpread.l0 k (o : Int) (i : Int) l own) (((2 ^ l.length : Nat) : Int) - ((o + sumFrom (fun s => (formOf l (s : Int)).toNat) i d : Nat) : Int), ((o + sumFrom (fun s => (formOf l (s : Int)).toNat) i d : Nat) : Int), true) := by
  have hp : 2 ^ l.length ≤ 2 ^ 9 := Nat.pow_le_pow_right (by decide) h9
  rw [show (2 : Nat) ^ 9 = 512 from rfl] at hp
  have hc : ((2 ^ l.length : Nat) : Int) = 2 ^ l.length := by norm_cast
  have hsh : shl .i64 1 (l.length : Int) = ((2 ^ l.length : Nat) : Int) := by rw [shl_one (by omega) (by omega), Int.toNat_natCast]
  generalize hP : (2 ^ l.length : Nat) = P at *
  induction d with
  | zero =>
    intro i o hd hi ho
    refine now fun k => ?_
    simp only [spec_FormSpread.l0, sumFrom]
    rw [hsh, if_neg (by omega), wrap_id (by omega) (by omega)]
    rfl
  | succ d ih =>
    intro i o hd hi ho
    have hf := formOf_bounds l (i : Int)
    obtain ⟨K, hK⟩ := ev_and (spec_liForm.ev l own hG (i : Int) (by omega) (by rw [← hc]; omega)) (ih (i + 1) (o + (formOf l (i : Int)).toNat) (by omega) (by omega) (by omega))
    refine ⟨K + 1, fun k hk => ?_⟩
    obtain ⟨m, rfl⟩ : ∃ m, k = m + 1 := ⟨k - 1, by omega⟩
    obtain ⟨k1, k2⟩ := hK m (by omega)
    simp only [spec_FormSpread.l0]
    rw [hsh, if_pos (by omega), k1, Option.bind_some, wrap_succ i (by omega), wrap_id (by omega) (by omega), show (o : Int) + formOf l (i : Int) = ((o + (formOf l (i : Int)).toNat : Nat) : Int) by omega, show o + sumFrom (fun s => (formOf l (s : Int)).toNat) i (d + 1) = o + (formOf l (i : Int)).toNat + sumFrom (fun s => (formOf l (s : Int)).toNat) (i + 1) d by simp only [sumFrom]; omega]
    exact k2
theorem spec_FormSpread.ev (l : List Int) (own : Bool) (h : l.length < 4611686018427387904) : Ev (fun k => spec_FormSpread.f k l own) (formSpread l) := by
  obtain ⟨K, hK⟩ := spec_liGood.ev l own h
  unfold formSpread
  cases e1 : (good l && decide (l.length ≤ 9))
  · refine ⟨K, fun k hk => ?_⟩
    have h1 : spec_liGood.f k l own = _ := hK k hk
    show spec_FormSpread.f k l own = _
    unfold spec_FormSpread.f
    rw [h1, Option.bind_some, e1]
    rfl
  · have e2 := e1
    simp only [Bool.and_eq_true, decide_eq_true_eq] at e2
    have hG : GoodG l := (good_iff l).1 e2.1
    obtain ⟨K2, hK2⟩ := spec_FormSpread.loop l own hG e2.2 (2 ^ l.length) 0 0 (Nat.sub_zero _) (Nat.zero_le _) (Nat.le_refl _)
    refine ⟨K + K2, fun k hk => ?_⟩
    have h1 : spec_liGood.f k l own = _ := hK k (by omega)
    have h2 : spec_FormSpread.l0 k 0 0 l own = _ := hK2 k (by omega)
    show spec_FormSpread.f k l own = _
    unfold spec_FormSpread.f
    rw [h1, Option.bind_some, e1, if_pos rfl, if_pos rfl, h2, Nat.zero_add]
theorem spec_grToggles.eq (l : List Int) (own : Bool) (hG : GoodG l) (i : Nat) (hi : i < l.length) : spec_grToggles.f l own (i : Int) = some (togg l own i) := by
  have h16 := hG.top
  have hx := hG.sets (rd l (i : Int)) (rd_mem l _ (by omega) (by omega))
  have hp := pow16 hG.top
  unfold spec_grToggles.f togg
  cases own
  · rw [if_neg (by decide), if_pos (by omega), if_pos (by omega), if_neg (by decide)]
  · have h2 : (2 : Nat) ^ i < 2 ^ 63 := Nat.pow_lt_pow_right (by decide) (by omega)
    rw [if_pos rfl, if_pos (by omega), if_pos (by omega), if_pos rfl, shl_one (by omega) (by omega), Int.toNat_natCast, or_eq hx.1 (by omega) (Int.natCast_nonneg _) (by exact_mod_cast h2)]
    rfl
theorem spec_grEffect.loop (l : List Int) (own : Bool) (hG : GoodG l) (s : Int) (h0 : 0 ≤ s) (h1 : s < 2 ^ l.length) : ∀ (d i o : Nat), i + d = l.length → o < 2 ^ l.length → Ev (fun k => spec_grEffect.l0 k s (o : Int) (l.length : Int) (i : Int) l own) (effFrom l own s d i o : Int)
  | 0, i, o, hd, ho => by
    refine now fun k => ?_
    simp only [spec_grEffect.l0]
    rw [if_neg (by omega)]
    rfl
  | d + 1, i, o, hd, ho => by
    have h16 := pow16 hG.top
    have ht := hG.top
    have hc := pow_cast l.length
    have hb := togg_bounds l own hG i (by omega)
    have hin := spec_grIn.eq s (i : Int) h0 (by omega) (by omega)
    have htg := spec_grToggles.eq l own hG i (by omega)
    unfold effFrom
    cases e : bit s (i : Int)
    · refine Ev.step (f := fun k => spec_grEffect.l0 k s (o : Int) (l.length : Int) ((i + 1 : Nat) : Int) l own) (fun k => ?_) (by simpa only [Bool.false_eq_true, if_false] using spec_grEffect.loop l own hG s h0 h1 d (i + 1) o (by omega) ho)
      simp only [spec_grEffect.l0]
      rw [if_pos (by omega), hin, Option.bind_some, e, if_neg (by decide), wrap_succ i (by omega)]
    · have hx : o ^^^ (togg l own i).toNat < 2 ^ l.length := Nat.xor_lt_two_pow ho (by omega)
      refine Ev.step (f := fun k => spec_grEffect.l0 k s ((o ^^^ (togg l own i).toNat : Nat) : Int) (l.length : Int) ((i + 1 : Nat) : Int) l own) (fun k => ?_) (by simpa only [if_true] using spec_grEffect.loop l own hG s h0 h1 d (i + 1) _ (by omega) hx)
      simp only [spec_grEffect.l0]
      rw [if_pos (by omega), hin, Option.bind_some, e, if_pos rfl, htg, Option.bind_some, xor_eq (by omega) (by omega) hb.1 (by omega), Int.toNat_natCast, wrap_succ i (by omega)]
theorem spec_grEffect.ev (l : List Int) (own : Bool) (hG : GoodG l) (s : Int) (h0 : 0 ≤ s) (h1 : s < 2 ^ l.length) : Ev (fun k => spec_grEffect.f k l own s) (effFrom l own s l.length 0 0 : Int) :=
  spec_grEffect.loop l own hG s h0 h1 l.length 0 0 (by omega) (Nat.two_pow_pos _)
theorem spec_l1Own.eq (l : List Int) (h : l.length < 17592186044416) : spec_l1Own.f l = some l := by
  unfold spec_l1Own.f
  rw [Option.bind_some, if_pos (by simpa using h)]
  rfl
theorem impl_FormOfLights.loop (l : List Int) (own : Bool) (hG : GoodG l) (hn : l.length ≤ 9) (a : Int) : ∀ (d i : Nat) (m0 m1 : Bool), i + d = 2 ^ l.length → Ev (fun k => impl_FormOfLights.go k l own a d i m0 m1) (formsGo l a d i m0 m1)
  | 0, i, m0, m1, hd => always fun k => rfl
  | d + 1, i, m0, m1, hd => by
    have hp := pow9 hn
    have hc := pow_cast l.length
    have hb := formOf_bounds l (i : Int)
    obtain ⟨K, hK⟩ := ev_and (impl_Graph_effect.ev l false hG (i : Int) (by omega) (by omega)) (impl_Graph_form.ev l own hG (i : Int) (by omega) (by omega))
    unfold formsGo
    by_cases e : (effFrom l false (i : Int) l.length 0 0 : Int) = a
    · rw [if_pos e]
      by_cases e1 : formOf l (i : Int) = 0
      · rw [if_pos e1]
        obtain ⟨K2, hK2⟩ := impl_FormOfLights.loop l own hG hn a d (i + 1) true m1 (by omega)
        refine ⟨K + K2, fun k hk => ?_⟩
        obtain ⟨h1, h2⟩ := hK k (by omega)
        show impl_FormOfLights.go k l own a (d + 1) i m0 m1 = _
        unfold impl_FormOfLights.go
        rw [h1, Option.bind_some, if_pos e, h2, Option.bind_some, if_pos e1]
        exact hK2 k (by omega)
      · rw [if_neg e1]
        have e2 : formOf l (i : Int) = 1 := by omega
        obtain ⟨K2, hK2⟩ := impl_FormOfLights.loop l own hG hn a d (i + 1) m0 true (by omega)
        refine ⟨K + K2, fun k hk => ?_⟩
        obtain ⟨h1, h2⟩ := hK k (by omega)
        show impl_FormOfLights.go k l own a (d + 1) i m0 m1 = _
        unfold impl_FormOfLights.go
        rw [h1, Option.bind_some, if_pos e, h2, Option.bind_some, if_neg e1, if_pos e2]
        exact hK2 k (by omega)
    · rw [if_neg e]
      obtain ⟨K2, hK2⟩ := impl_FormOfLights.loop l own hG hn a d (i + 1) m0 m1 (by omega)
      refine ⟨K + K2, fun k hk => ?_⟩
      obtain ⟨h1, h2⟩ := hK k (by omega)
      show impl_FormOfLights.go k l own a (d + 1) i m0 m1 = _
      unfold impl_FormOfLights.go
      rw [h1, Option.bind_some, if_neg e]
      exact hK2 k (by omega)
theorem impl_FormOfLights.ev (l : List Int) (own : Bool) (s : Int) : Ev (fun k => impl_FormOfLights.f k l own s) (if (good l && decide (l.length ≤ 9) && inSet l.length s) = true then formsEnd (formsGo l s (2 ^ l.length) 0 false false) else (0, false)) := by
  obtain ⟨K, hK⟩ := impl_isLit.ev l own [s]
  have ea : (good l && [s].all (inSet l.length) && decide (l.length ≤ 9)) = (good l && decide (l.length ≤ 9) && inSet l.length s) := by
    simp only [List.all_cons, List.all_nil, Bool.and_true]
    cases good l <;> cases inSet l.length s <;> cases decide (l.length ≤ 9) <;> rfl
  rw [ea] at hK
  cases e1 : (good l && decide (l.length ≤ 9) && inSet l.length s)
  · refine ⟨K, fun k hk => ?_⟩
    have h1 : impl_isLit.f k l own [s] = _ := hK k hk
    show impl_FormOfLights.f k l own s = _
    unfold impl_FormOfLights.f
    rw [h1, Option.bind_some, e1]
    rfl
  · have e1' := e1
    simp only [Bool.and_eq_true, decide_eq_true_eq] at e1'
    have hG : GoodG l := (good_iff l).1 e1'.1.1
    obtain ⟨K2, hK2⟩ := impl_FormOfLights.loop l own hG e1'.1.2 s (2 ^ l.length) 0 false false (by omega)
    refine ⟨K + K2, fun k hk => ?_⟩
    have h1 : impl_isLit.f k l own [s] = _ := hK k (by omega)
    have h2 : impl_FormOfLights.go k l own s (2 ^ l.length) 0 false false = _ := hK2 k (by omega)
    show impl_FormOfLights.f k l own s = _
    unfold impl_FormOfLights.f
    rw [h1, Option.bind_some, e1, if_pos rfl, if_pos e1'.1.2, h2, Option.bind_some]
    rfl
theorem spec_FormOfLights.loop (l : List Int) (own : Bool) (hG : GoodG l) (hn : l.length ≤ 9) (a : Int) : ∀ (d i : Nat) (m0 m1 : Bool), i + d = 2 ^ l.length → Ev (fun k => spec_FormOfLights.l0 k a [m0, m1] (i : Int) l own l false) (formsEnd (formsGo l a d i m0 m1))
  | 0, i, m0, m1, hd => by
    have hp := pow9 hn
    have e0 : shl .i64 1 (l.length : Int) = ((2 ^ l.length : Nat) : Int) := by rw [shl_one (by omega) (by omega), Int.toNat_natCast]
    refine now fun k => ?_
    simp only [spec_FormOfLights.l0]
    rw [e0, if_neg (by omega)]
    cases m0 <;> cases m1 <;> rfl
  | d + 1, i, m0, m1, hd => by
    have hp := pow9 hn
    have hc := pow_cast l.length
    have e0 : shl .i64 1 (l.length : Int) = ((2 ^ l.length : Nat) : Int) := by rw [shl_one (by omega) (by omega), Int.toNat_natCast]
    have hb := formOf_bounds l (i : Int)
    have key : ∀ n0 n1, Ev (fun k => spec_FormOfLights.l0 k a [n0, n1] ((i + 1 : Nat) : Int) l own l false) (formsEnd (formsGo l a d (i + 1) n0 n1)) := fun n0 n1 => spec_FormOfLights.loop l own hG hn a d (i + 1) n0 n1 (by omega)
    obtain ⟨K, hK⟩ := ev_and (spec_grEffect.ev l false hG (i : Int) (by omega) (by omega)) (spec_liForm.ev l own hG (i : Int) (by omega) (by omega))
    have fin : ∀ (n0 n1 : Bool) (r : Int × Bool), Ev (fun k => spec_FormOfLights.l0 k a [n0, n1] ((i + 1 : Nat) : Int) l own l false) r → (∀ k, K ≤ k → spec_FormOfLights.l0 (k + 1) a [m0, m1] (i : Int) l own l false = spec_FormOfLights.l0 k a [n0, n1] ((i + 1 : Nat) : Int) l own l false) → Ev (fun k => spec_FormOfLights.l0 k a [m0, m1] (i : Int) l own l false) r := by
      rintro n0 n1 r ⟨K2, hK2⟩ h
      refine ⟨K + K2 + 1, fun k hk => ?_⟩
      obtain ⟨q, rfl⟩ : ∃ q, k = q + 1 := ⟨k - 1, by omega⟩
      exact (h q (by omega)).trans (hK2 q (by omega))
    unfold formsGo
    by_cases e : (effFrom l false (i : Int) l.length 0 0 : Int) = a
    · rw [if_pos e]
      by_cases e1 : formOf l (i : Int) = 0
      · rw [if_pos e1]
        refine fin true m1 _ (key _ _) fun k hk => ?_
        obtain ⟨h1, h2⟩ := hK k hk
        simp only [spec_FormOfLights.l0]
        rw [e0, if_pos (by omega), h1, Option.bind_some, if_pos e, h2, Option.bind_some, e1, if_pos (by decide), if_pos (by simp), wrap_succ i (by omega)]
        rfl
      · rw [if_neg e1]
        have e2 : formOf l (i : Int) = 1 := by omega
        refine fin m0 true _ (key _ _) fun k hk => ?_
        obtain ⟨h1, h2⟩ := hK k hk
        simp only [spec_FormOfLights.l0]
        rw [e0, if_pos (by omega), h1, Option.bind_some, if_pos e, h2, Option.bind_some, e2, if_pos (by decide), if_pos (by simp), wrap_succ i (by omega)]
        rfl
    · rw [if_neg e]
      refine fin m0 m1 _ (key _ _) fun k hk => ?_
      obtain ⟨h1, h2⟩ := hK k hk
      simp only [spec_FormOfLights.l0]
      rw [e0, if_pos (by omega), h1, Option.bind_some, if_neg e, wrap_succ i (by omega)]
theorem spec_FormOfLights.ev (l : List Int) (own : Bool) (s : Int) (h : l.length < 4611686018427387904) : Ev (fun k => spec_FormOfLights.f k l own s) (if (good l && decide (l.length ≤ 9) && inSet l.length s) = true then formsEnd (formsGo l s (2 ^ l.length) 0 false false) else (0, false)) := by
  obtain ⟨K, hK⟩ := spec_liSet.ev l own s h
  cases e1 : (good l && decide (l.length ≤ 9) && inSet l.length s)
  · refine ⟨K, fun k hk => ?_⟩
    have h1 : spec_liSet.f k l own s = _ := hK k hk
    show spec_FormOfLights.f k l own s = _
    unfold spec_FormOfLights.f
    rw [h1, Option.bind_some, e1]
    rfl
  · have e1' := e1
    simp only [Bool.and_eq_true, decide_eq_true_eq] at e1'
    have hG : GoodG l := (good_iff l).1 e1'.1.1
    obtain ⟨K2, hK2⟩ := spec_FormOfLights.loop l own hG e1'.1.2 s (2 ^ l.length) 0 false false (by omega)
    refine ⟨K + K2, fun k hk => ?_⟩
    have h1 : spec_liSet.f k l own s = _ := hK k (by omega)
    have h2 : spec_FormOfLights.l0 k s [false, false] ((0 : Nat) : Int) l own l false = _ := hK2 k (by omega)
    have h9 := e1'.1.2
    show spec_FormOfLights.f k l own s = _
    unfold spec_FormOfLights.f spec_grOwn.f
    rw [h1, Option.bind_some, e1, if_pos rfl, spec_l1Own.eq l (by omega), Option.bind_some, Option.bind_some]
    exact h2
theorem laws_hSame.loop (a b : List Int) (hl : a.length = b.length) (h : a.length < 4611686018427387904) (d : Nat) : ∀ i : Nat, a.length - i = d → i ≤ a.length → Ev (fun k => laws_hSame.l0 k a b (a.length : Int) (i : Int)) (decide (a.drop i = b.drop i)) := by
  induction d with
  | zero =>
    intro i hd hi
    refine now fun k => ?_
    simp only [laws_hSame.l0]
    rw [if_neg (by omega), List.drop_eq_nil_of_le (by omega), List.drop_eq_nil_of_le (by omega)]
    rfl
  | succ d ih =>
    intro i hd hi
    have hlt : i < a.length := by omega
    have hltb : i < b.length := by omega
    rw [drop_cons a i hlt, drop_cons b i hltb]
    by_cases e : a[i] = b[i]
    · have := ih (i + 1) (by omega) (by omega)
      refine Ev.step (f := fun k => laws_hSame.l0 k a b (a.length : Int) ((i + 1 : Nat) : Int)) (fun k => ?_) (by rw [show decide (a[i] :: a.drop (i + 1) = b[i] :: b.drop (i + 1)) = decide (a.drop (i + 1) = b.drop (i + 1)) by simp only [List.cons.injEq, e, true_and]]; exact this)
      simp only [laws_hSame.l0]
      rw [if_pos (by omega), if_pos (by omega), if_pos (by omega), if_pos (by omega), rd_get a i hlt, rd_get b i hltb, if_pos e, wrap_succ i (by omega)]
    · refine now fun k => ?_
      simp only [laws_hSame.l0]
      rw [if_pos (by omega), if_pos (by omega), if_pos (by omega), if_pos (by omega), rd_get a i hlt, rd_get b i hltb, if_neg e, show decide (a[i] :: a.drop (i + 1) = b[i] :: b.drop (i + 1)) = false by simp only [List.cons.injEq, e, false_and, decide_false]]
theorem laws_hSame.ev (a b : List Int) (h : a.length < 4611686018427387904) : Ev (fun k => laws_hSame.f k a b) (decide (a = b)) := by
  by_cases hl : a.length = b.length
  · have := laws_hSame.loop a b hl h a.length 0 (by omega) (by omega)
    refine Ev.congr (f := fun k => laws_hSame.l0 k a b (a.length : Int) ((0 : Nat) : Int)) (fun k => ?_) (by simpa using this)
    unfold laws_hSame.f
    rw [if_pos (by omega)]
    rfl
  · refine always fun k => ?_
    unfold laws_hSame.f
    rw [if_neg (by omega)]
    have : ¬ a = b := fun e => hl (by rw [e])
    simp [this]
theorem laws_hHas.loop (l : List Int) (n : Int) (h : l.length < 4611686018427387904) : ∀ (d i : Nat), l.length - i = d → i ≤ l.length → Ev (fun k => laws_hHas.l0 k n l (l.length : Int) (i : Int)) ((l.drop i).contains n)
  | 0, i, hd, hi => by
    refine now fun k => ?_
    simp only [laws_hHas.l0]
    rw [if_neg (by omega), List.drop_eq_nil_of_le (by omega)]
    rfl
  | d + 1, i, hd, hi => by
    have hlt : i < l.length := by omega
    rw [drop_cons l i hlt, List.contains_cons]
    by_cases e : l[i] = n
    · refine now fun k => ?_
      simp only [laws_hHas.l0]
      rw [if_pos (by omega), if_pos (by omega), if_pos (by omega), rd_get l i hlt, if_pos e]
      simp [e]
    · have e2 : (n == l[i]) = false := by simpa using fun h => e h.symm
      refine Ev.step (f := fun k => laws_hHas.l0 k n l (l.length : Int) ((i + 1 : Nat) : Int)) (fun k => ?_) (by rw [e2, Bool.false_or]; exact laws_hHas.loop l n h d (i + 1) (by omega) (by omega))
      simp only [laws_hHas.l0]
      rw [if_pos (by omega), if_pos (by omega), if_pos (by omega), rd_get l i hlt, if_neg e, wrap_succ i (by omega)]
theorem laws_hHas.ev (l : List Int) (n : Int) (h : l.length < 4611686018427387904) : Ev (fun k => laws_hHas.f k l n) (l.contains n) := by
  have h0 := laws_hHas.loop l n h l.length 0 (by omega) (by omega)
  exact Ev.congr (f := fun k => laws_hHas.l0 k n l (l.length : Int) ((0 : Nat) : Int)) (fun k => rfl) (by simpa using h0)
theorem impl_Graph_litMove.eq (l : List Int) (own : Bool) (hG : GoodG l) (s i : Nat) (hs : s < 2 ^ l.length) (hi : i < l.length) : impl_Graph_litMove.f l own (s : Int) (i : Int) = some (moveOf l false s i : Int) := by
  have h16 := pow16 hG.top
  have hc := pow_cast l.length
  have hx := hG.sets (rd l (i : Int)) (rd_mem l _ (by omega) (by omega))
  unfold impl_Graph_litMove.f moveOf
  rw [impl_has.eq (s : Int) (i : Int) (by omega) (by omega) (by omega), Option.bind_some, show bit (s : Int) (i : Int) = s.testBit i from rfl]
  split
  · rw [if_pos (by omega), if_pos (by omega), xor_eq (by omega) (by omega) hx.1 (by omega)]
    rfl
  · rfl
theorem impl_ReachOf.ev (l : List Int) (own : Bool) (s : Int) : Ev (fun k => impl_ReachOf.f k l own s) (if (good l && decide (l.length ≤ 9) && inSet l.length s) = true then (ints (orbitOf l false s.toNat), true) else ([], false)) := by
  obtain ⟨K, hK⟩ := impl_isLit.ev l own [s]
  have ea : (good l && [s].all (inSet l.length) && decide (l.length ≤ 9)) = (good l && decide (l.length ≤ 9) && inSet l.length s) := by
    simp only [List.all_cons, List.all_nil, Bool.and_true]
    cases good l <;> cases inSet l.length s <;> cases decide (l.length ≤ 9) <;> rfl
  rw [ea] at hK
  cases e1 : (good l && decide (l.length ≤ 9) && inSet l.length s)
  · refine ⟨K, fun k hk => ?_⟩
    have h1 : impl_isLit.f k l own [s] = _ := hK k hk
    show impl_ReachOf.f k l own s = _
    unfold impl_ReachOf.f
    rw [h1, Option.bind_some, e1]
    rfl
  · have e1' := e1
    simp only [Bool.and_eq_true, decide_eq_true_eq] at e1'
    have hG : GoodG l := (good_iff l).1 e1'.1.1
    have hs : 0 ≤ s ∧ s < 2 ^ l.length := by simpa [inSet] using e1'.2
    obtain ⟨t, rfl⟩ := Int.eq_ofNat_of_zero_le hs.1
    have hc := pow_cast l.length
    have ht : t < 2 ^ l.length := by omega
    obtain ⟨K2, hK2⟩ := impl_Graph_orbit.ev (fun s i => impl_Graph_litMove.f l own s i) (moveOf l false) l e1'.1.2 (fun s i hs hi => impl_Graph_litMove.eq l own hG s i hs hi) (fun s i hs hi => moveOf_lt l hG false s i hs hi) t ht
    refine ⟨K + K2, fun k hk => ?_⟩
    have h1 : impl_isLit.f k l own [(t : Int)] = _ := hK k (by omega)
    have h2 : impl_Graph_orbit.f k (fun s i => impl_Graph_litMove.f l own s i) l (t : Int) = _ := hK2 k (by omega)
    show impl_ReachOf.f k l own (t : Int) = _
    unfold impl_ReachOf.f
    rw [h1, Option.bind_some, e1, if_pos rfl, h2, Option.bind_some]
    rfl
end Go.Proofs.YtjocpjjimhefjaaGreat.Pure
