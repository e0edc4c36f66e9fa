/- What the functions of FnExactTorusNullity compute, in plain words. -/
import Derived.Test.YtcdphbpbfmjheaaPFnExactTorusNullityx7
import Derived.Test.YtcdphbpbfmjheaaM1
import Derived.Test.YtcdphbpbfmjheaaM2
import Derived.Test.YtcdphbpbfmjheaaM4
import Derived.Test.YtcdphbpbfmjheaaM5
import Derived.Test.YtcdphbpbfmjheaaM6
import Derived.Test.YtcdphbpbfmjheaaM8
import Derived.Test.YtcdphbpbfmjheaaM10
import Derived.Test.YtcdphbpbfmjheaaQFnExactTorusNullity0
namespace Go.Proofs.Ytcdphbpbfmjheaa.Pure
open Go.RowKit Go.Proofs.Ytcdphbpbfmjheaa.PFnExactTorusNullity Go.Proofs.YtcdphbpbfmjheaaW.PrintWords Go.Proofs.YtcdphbpbfmjheaaW.PrintLast Go.Proofs.YtcdphbpbfmjheaaW.PrintMore Go.Proofs.YtcdphbpbfmjheaaM
set_option linter.unusedVariables false
set_option linter.unusedSimpArgs false
/-! impl_Graph_toggleMap -/
theorem impl_Graph_toggleMap.loop (l : List Int) (own : Bool) (hG : GoodG l) (d : Nat) :
    ∀ (i : Nat) (o : List Int), l.length - i = d → i ≤ l.length → o.length = i → Ev (fun k => impl_Graph_toggleMap.l0 k o (l.length : Int) (i : Int) l own) (o ++ (List.range' i d).map (togg l own)) := by
  have h16 := hG.top
  induction d with
  | zero =>
    intro i o hd hi ho
    refine now fun k => ?_
    simp only [impl_Graph_toggleMap.l0]
    rw [if_neg (by omega)]
    simp
  | succ d ih =>
    intro i o hd hi ho
    have hlt : i < l.length := by omega
    refine Ev.step (f := fun k => impl_Graph_toggleMap.l0 k (o ++ [togg l own i]) (l.length : Int) ((i + 1 : Nat) : Int) l own) (fun k => ?_) (by rw [List.range'_succ, List.map_cons]; simpa using ih (i + 1) (o ++ [togg l own i]) (by omega) (by omega) (by simp [ho]))
    simp only [impl_Graph_toggleMap.l0]
    rw [if_pos (by omega), impl_Graph_toggles.eq l own hG i hlt, Option.bind_some, if_pos (by omega), wrap_succ i (by omega)]
theorem impl_Graph_toggleMap.ev (l : List Int) (own : Bool) (hG : GoodG l) : Ev (fun k => impl_Graph_toggleMap.f k l own) (toggles l own) :=
  impl_Graph_toggleMap.loop l own hG l.length 0 [] (by omega) (by omega) rfl

/-! impl_circleProduct -/
theorem impl_circleProduct.inner (m n : Nat) (hn : n ≤ 16) (T : List Nat) (hTn : T.length = n) (hT : ∀ x ∈ T, x < 2 ^ n) (b : List Nat) (hB : Basis b) (hb : ∀ x ∈ b, x < 2 ^ 62) (hbl : b.length ≤ 1000) (i : Nat) (hi : i < 2 * n) (R : Int) (hm : m < 1000000) :
    ∀ (d j : Nat) (p : Nat × Nat), j + d = m → p.1 < 2 ^ n → p.2 < 2 ^ n → Ev (fun k => impl_circleProduct.l0 k (m : Int) (n : Int) (ints T) (ints (put b (pack n (cit T d p) ^^^ 2 ^ i))) (2 * n : Int) ((i + 1 : Nat) : Int)) R →
      Ev (fun k => impl_circleProduct.l1 k (m : Int) (n : Int) (ints T) (ints b) (i : Int) (p.1 : Int) (p.2 : Int) (2 * n : Int) (i : Int) (m : Int) (j : Int)) R
  | 0, j, p, hd, h1, h2, hR => by
    have hp : (2 : Nat) ^ n ≤ 2 ^ 16 := Nat.pow_le_pow_right (by decide) hn
    have hi2 : (2 : Nat) ^ i < 2 ^ 32 := Nat.pow_lt_pow_right (by decide) (by omega)
    have hpk := pack_lt h1 h2
    have hpk2 : (2 : Nat) ^ (2 * n) ≤ 2 ^ 32 := Nat.pow_le_pow_right (by decide) (by omega)
    have hmul : p.2 * 2 ^ n < 2 ^ 32 := by
      have : p.2 * 2 ^ n < 2 ^ n * 2 ^ n := Nat.mul_lt_mul_of_pos_right h2 (Nat.two_pow_pos n)
      rw [← Nat.pow_add, show n + n = 2 * n by omega] at this
      omega
    have e1 : p.1 ||| p.2 * 2 ^ n = pack n p := by unfold pack; rw [← Nat.shiftLeft_eq]; exact or_shift h1
    have hx : pack n p ^^^ 2 ^ i < 2 ^ 32 := Nat.xor_lt_two_pow (by omega) hi2
    obtain ⟨K, hK⟩ := hR
    refine ⟨K + 2, fun k hk => ?_⟩
    obtain ⟨q, rfl⟩ : ∃ q, k = q + 2 := ⟨k - 2, by omega⟩
    show impl_circleProduct.l1 (q + 1 + 1) (m : Int) (n : Int) (ints T) (ints b) (i : Int) (p.1 : Int) (p.2 : Int) (2 * n : Int) (i : Int) (m : Int) (j : Int) = _
    simp only [impl_circleProduct.l1]
    rw [if_neg (by omega), if_pos (by omega), if_pos (by omega), shl_eq (by omega) (by omega) (by omega) (by rw [Int.toNat_natCast, Int.toNat_natCast]; omega), Int.toNat_natCast, Int.toNat_natCast, or_nat _ _ (by omega) (by omega), shl_one (by omega) (by omega), Int.toNat_natCast, e1, xor_nat _ _ (by omega) (by omega), impl_extended.eq q b _ (by omega) hb hB (by omega), Option.bind_some, wrap_succ i (by omega)]
    exact hK (q + 1) (by omega)
  | d + 1, j, p, hd, h1, h2, hR => by
    have hp : (2 : Nat) ^ n ≤ 2 ^ 16 := Nat.pow_le_pow_right (by decide) hn
    have hc := cst_lt hT h1 h2
    have ih := impl_circleProduct.inner m n hn T hTn hT b hB hb hbl i hi R hm d (j + 1) (cst T p) (by omega) hc.1 hc.2 hR
    have hbI : ∀ x ∈ ints T, 0 ≤ x ∧ x < 2 ^ n := fun x hx => by
      unfold ints at hx
      obtain ⟨y, hy, rfl⟩ := List.mem_map.1 hx
      have := hT y hy
      have hc : ((2 ^ n : Nat) : Int) = (2 : Int) ^ n := by simp
      omega
    have ha := ap_lt T 0 0 hT (Nat.two_pow_pos n) (s := p.1)
    obtain ⟨K, hK⟩ := ev_and (impl_apply.ev (ints T) (p.1 : Int) n (by omega) hbI (by omega) (by omega) (by rw [ints_length]; omega)) ih
    refine ⟨K + 1, fun k hk => ?_⟩
    obtain ⟨q, rfl⟩ : ∃ q, k = q + 1 := ⟨k - 1, by omega⟩
    obtain ⟨c1, c2⟩ := hK q (by omega)
    show impl_circleProduct.l1 (q + 1) (m : Int) (n : Int) (ints T) (ints b) (i : Int) (p.1 : Int) (p.2 : Int) (2 * n : Int) (i : Int) (m : Int) (j : Int) = _
    simp only [impl_circleProduct.l1]
    rw [if_pos (by omega), c1, Option.bind_some, applyMap_ints, xor_nat _ _ (by omega) (by omega), wrap_succ j (by omega)]
    exact c2
theorem impl_circleProduct.loop (m n : Nat) (hn : n ≤ 16) (T : List Nat) (hTn : T.length = n) (hT : ∀ x ∈ T, x < 2 ^ n) (hm : m < 1000000) (d : Nat) :
    ∀ (i : Nat) (b : List Nat), i + d = 2 * n → b = puts [] ((List.range' 0 i).map (cvec n T m)) → Ev (fun k => impl_circleProduct.l0 k (m : Int) (n : Int) (ints T) (ints b) (2 * n : Int) (i : Int)) (circ n T m) := by
  have hp62 : (2 : Nat) ^ (2 * n) ≤ 2 ^ 32 := Nat.pow_le_pow_right (by decide) (by omega)
  induction d with
  | zero =>
    intro i b hd hb
    obtain rfl : i = 2 * n := by omega
    have hbl := puts_length_le ((List.range' 0 (2 * n)).map (cvec n T m)) []
    rw [← hb] at hbl
    simp only [List.length_nil, List.length_map, List.length_range'] at hbl
    refine now fun k => ?_
    simp only [impl_circleProduct.l0]
    rw [if_neg (by omega), ints_length, wrap_id (x := 2 * (n : Int)) (by omega) (by omega), wrap_id (by omega) (by omega)]
    unfold circ nulMap
    rw [← hb, List.length_map, List.length_range']
    congr 1
  | succ d ih =>
    intro i b hd hb
    have hi : i < 2 * n := by omega
    have hcv : ∀ x ∈ (List.range' 0 i).map (cvec n T m), x < 2 ^ (2 * n) := fun x hx => by
      obtain ⟨y, hy, rfl⟩ := List.mem_map.1 hx
      exact cvec_lt hT m (by have := List.mem_range'_1.1 hy; omega)
    have hB : Basis b := by rw [hb]; exact puts_basis _ basis_nil
    have hlo : ∀ x ∈ b, x < 2 ^ (2 * n) := by rw [hb]; exact puts_lt _ (fun x hx => by simp at hx) hcv
    have hbl : b.length ≤ 1000 := by
      have := puts_length_le ((List.range' 0 i).map (cvec n T m)) []
      rw [← hb] at this
      simp only [List.length_nil, List.length_map, List.length_range'] at this
      omega
    have hf := cfst_lt hi
    have ih' := ih (i + 1) (put b (pack n (cit T m (cfst n i)) ^^^ 2 ^ i)) (by omega) (by
      rw [List.range'_1_concat, List.map_append, hb]
      unfold puts
      rw [List.foldl_append]
      simp only [Nat.zero_add, List.map_cons, List.map_nil, List.foldl_cons, List.foldl_nil]
      rfl)
    have hin := impl_circleProduct.inner m n hn T hTn hT b hB (fun x hx => by have := hlo x hx; omega) hbl i hi _ hm m 0 (cfst n i) (by omega) hf.1 hf.2 ih'
    obtain ⟨K, hK⟩ := hin
    refine ⟨K + 2, fun k hk => ?_⟩
    obtain ⟨q, rfl⟩ : ∃ q, k = q + 2 := ⟨k - 2, by omega⟩
    have c1 := hK q (by omega)
    show impl_circleProduct.l0 (q + 1 + 1) (m : Int) (n : Int) (ints T) (ints b) (2 * n : Int) (i : Int) = _
    simp only [impl_circleProduct.l0]
    rw [if_pos (by omega)]
    by_cases e : i < n
    · have ef : cfst n i = (2 ^ i, 0) := if_pos e
      rw [ef] at c1
      rw [if_pos (by omega), if_pos (by omega), shl_one (by omega) (by omega), Int.toNat_natCast]
      simp only [impl_circleProduct.j1]
      exact c1
    · have ef : cfst n i = (0, 2 ^ (i - n)) := if_neg e
      rw [ef] at c1
      rw [if_neg (by omega), wrap_id (by omega) (by omega), if_pos (by omega), show (i : Int) - (n : Int) = ((i - n : Nat) : Int) by omega, shl_one (by omega) (by omega), Int.toNat_natCast]
      simp only [impl_circleProduct.j1]
      exact c1
theorem impl_circleProduct.ev (l : List Int) (own : Bool) (hG : GoodG l) (m : Nat) (hm : m < 1000000) : Ev (fun k => impl_circleProduct.f k l own (m : Int)) (circ l.length (togs l own) m) := by
  have ht := togs_ints l own hG
  have h16 := hG.top
  obtain ⟨K, hK⟩ := ev_and (impl_Graph_toggleMap.ev l own hG) (impl_circleProduct.loop m l.length h16 (togs l own) ht.2.1 ht.2.2 hm (2 * l.length) 0 [] (by omega) rfl)
  refine ⟨K, fun k hk => ?_⟩
  obtain ⟨c1, c2⟩ := hK k hk
  show impl_circleProduct.f k l own (m : Int) = _
  unfold impl_circleProduct.f
  rw [c1, Option.bind_some, ht.1, wrap_id (by omega) (by omega)]
  exact c2

/-! impl_TorusNullity -/
theorem impl_side3 (a : Int) : impl_isSide.f a 3 = some (decide (3 ≤ a) && decide (a ≤ 40)) := by
  unfold impl_isSide.f
  rw [impl_in.eq]
  rfl
theorem impl_TorusNullity.ev (a c : Int) (own : Bool) : Ev (fun k => impl_TorusNullity.f k a c own) (torus a c own) := by
  unfold torus
  cases e2 : (decide (3 ≤ c) && decide (c ≤ 16))
  · rw [Bool.and_false, if_neg (by decide)]
    refine always fun k => ?_
    unfold impl_TorusNullity.f
    rw [impl_CircleGraph.no c own e2 k, Option.bind_some]
    rfl
  · have h2 : 3 ≤ c ∧ c ≤ 16 := by simpa using e2
    obtain ⟨n, rfl⟩ := Int.eq_ofNat_of_zero_le (show 0 ≤ c by omega)
    obtain ⟨K1, hK1⟩ := impl_CircleGraph.yes n own (by omega) (by omega)
    cases e1 : (decide (3 ≤ a) && decide (a ≤ 40))
    · rw [Bool.false_and, if_neg (by decide)]
      refine ⟨K1, fun k hk => ?_⟩
      have c1 : impl_CircleGraph.f k (n : Int) own = _ := hK1 k hk
      show impl_TorusNullity.f k a (n : Int) own = _
      unfold impl_TorusNullity.f
      rw [c1, Option.bind_some, if_pos rfl, impl_side3, e1, Option.bind_some, if_neg (by decide)]
    · rw [Bool.and_true, if_pos rfl]
      have h1 : 3 ≤ a ∧ a ≤ 40 := by simpa using e1
      obtain ⟨m, rfl⟩ := Int.eq_ofNat_of_zero_le (show 0 ≤ a by omega)
      have hG := circleL_good (n := n) (by omega) (by omega)
      obtain ⟨K, hK⟩ := impl_circleProduct.ev (ints (circleL n)) own hG m (by omega)
      refine ⟨K1 + K, fun k hk => ?_⟩
      have c1 : impl_CircleGraph.f k (n : Int) own = _ := hK1 k (by omega)
      have c2 : impl_circleProduct.f k (ints (circleL n)) own (m : Int) = _ := hK k (by omega)
      rw [ints_length, circleL_length] at c2
      show impl_TorusNullity.f k (m : Int) (n : Int) own = _
      unfold impl_TorusNullity.f
      rw [c1, Option.bind_some, if_pos rfl, impl_side3, e1, Option.bind_some, if_pos rfl]
      simp only []
      rw [c2, Option.bind_some]
      rfl
end Go.Proofs.Ytcdphbpbfmjheaa.Pure
