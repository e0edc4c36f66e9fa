/- What the functions of FnLitOrbits compute, in plain words. -/
import Derived.Test.YtjkijnggjjoheaaPFnLitOrbitsx
import Derived.Test.YtjkijnggjjoheaaM1
import Derived.Test.YtjkijnggjjoheaaM2
import Derived.Test.YtjkijnggjjoheaaM3
import Derived.Test.YtjkijnggjjoheaaM4
import Derived.Test.YtjkijnggjjoheaaM6
import Derived.Test.YtjkijnggjjoheaaM7
import Derived.Test.YtjkijnggjjoheaaM9
import Derived.Test.YtjkijnggjjoheaaM11
import Derived.Test.YtjkijnggjjoheaaM12
import Derived.Test.YtjkijnggjjoheaaM13
import Derived.Test.YtjkijnggjjoheaaM17
import Derived.Test.YtjkijnggjjoheaaM18
import Derived.Test.YtjkijnggjjoheaaQFnLitOrbits0
namespace Go.Proofs.Ytjkijnggjjoheaa.Pure
open Go.RowKit Go.Proofs.Ytjkijnggjjoheaa.PFnLitOrbits Go.Proofs.YtjkijnggjjoheaaW.PrintWords Go.Proofs.YtjkijnggjjoheaaW.PrintLast Go.Proofs.YtjkijnggjjoheaaW.PrintMore Go.Proofs.YtjkijnggjjoheaaM
set_option linter.unusedVariables false
set_option linter.unusedSimpArgs false
/-! impl_LeastLights -/
theorem impl_LeastLights.loop (l : List Int) (hG : GoodG l) (d : Nat) (a : List Nat) (ha : ∀ x ∈ a, x ∈ starts l) (hal : a.length ≤ 512) :
    ∀ i : Nat, i + d = a.length → Ev (fun k => impl_LeastLights.l0 k (ints (a.take i)) (a.map fun s => ints (orbitOf l false s)) (a.length : Int) (i : Int)) (ints a, true) := by
  induction d with
  | zero =>
    intro i hd
    refine now fun k => ?_
    simp only [impl_LeastLights.l0]
    rw [if_neg (by omega), List.take_of_length_le (by omega)]
  | succ d ih =>
    intro i hd
    have hlt : i < a.length := by omega
    obtain ⟨r, hr⟩ := orbit_head l hG a[i] (ha _ (List.getElem_mem hlt))
    have e1 : rd_L2 (a.map fun s => ints (orbitOf l false s)) (i : Int) = ints (a[i] :: r) := by
      unfold rd_L2
      rw [Int.toNat_natCast, List.getD_eq_getElem?_getD, List.getElem?_map, List.getElem?_eq_getElem hlt]
      simp [hr]
    refine Ev.step (f := fun k => impl_LeastLights.l0 k (ints (a.take (i + 1))) (a.map fun s => ints (orbitOf l false s)) (a.length : Int) ((i + 1 : Nat) : Int)) (fun k => ?_) (ih (i + 1) (by omega))
    simp only [impl_LeastLights.l0]
    rw [if_pos (by omega), if_pos (by omega), if_pos (by rw [List.length_map]; omega), e1, if_pos (by rw [ints_length, List.length_cons]; omega), if_pos (by rw [ints_length, List.length_take]; omega), wrap_succ i (by omega), List.take_succ_eq_append_getElem hlt, ints_append]
    rfl
theorem impl_LeastLights.ev (l : List Int) (own : Bool) : Ev (fun k => impl_LeastLights.f k l own) (if (good l && decide (l.length ≤ 9)) = true then (ints (starts l), true) else ([], false)) := by
  obtain ⟨K, hK⟩ := impl_isLit.ev l own []
  have ea : (good l && ([] : List Int).all (inSet l.length) && decide (l.length ≤ 9)) = (good l && decide (l.length ≤ 9)) := by
    simp only [List.all_nil, Bool.and_true]
  rw [ea] at hK
  cases e1 : (good l && decide (l.length ≤ 9))
  · refine ⟨K, fun k hk => ?_⟩
    have h1 : impl_isLit.f k l own [] = _ := hK k hk
    show impl_LeastLights.f k l own = _
    unfold impl_LeastLights.f
    rw [h1, Option.bind_some, e1]
    rfl
  · have e1' := e1
    simp only [Bool.and_eq_true, decide_eq_true_eq] at e1'
    have hG := (good_iff l).1 e1'.1
    have h9 := pow9 e1'.2
    have hsl := starts_length l
    obtain ⟨K2, hK2⟩ := ev_and (impl_Graph_orbits.ev l own hG e1'.2) (impl_LeastLights.loop l hG (starts l).length (starts l) (fun _ h => h) (by omega) 0 (by omega))
    refine ⟨K + K2, fun k hk => ?_⟩
    have h1 : impl_isLit.f k l own [] = _ := hK k (by omega)
    obtain ⟨h2, h3⟩ := hK2 k (by omega)
    show impl_LeastLights.f k l own = _
    unfold impl_LeastLights.f
    rw [h1, Option.bind_some, e1, if_pos rfl, h2, Option.bind_some, List.length_map]
    exact h3

/-! spec_LeastLights -/
theorem spec_LeastLights.ev (l : List Int) (own : Bool) (h : l.length < 4611686018427387904) : Ev (fun k => spec_LeastLights.f k l own) (if (good l && decide (l.length ≤ 9)) = true then (ints (starts l), true) else ([], false)) := by
  obtain ⟨K, hK⟩ := spec_liGood.ev l own h
  cases e1 : (good l && decide (l.length ≤ 9))
  · refine ⟨K, fun k hk => ?_⟩
    have h1 : spec_liGood.f k l own = _ := hK k hk
    show spec_LeastLights.f k l own = _
    unfold spec_LeastLights.f
    rw [h1, Option.bind_some, e1]
    rfl
  · have e1' := e1
    simp only [Bool.and_eq_true, decide_eq_true_eq] at e1'
    obtain ⟨K2, hK2⟩ := spec_liOrbits.ev l own ((good_iff l).1 e1'.1) e1'.2
    refine ⟨K + K2, fun k hk => ?_⟩
    have h1 : spec_liGood.f k l own = _ := hK k (by omega)
    have h2 : spec_liOrbits.f k l own = _ := hK2 k (by omega)
    show spec_LeastLights.f k l own = _
    unfold spec_LeastLights.f
    rw [h1, Option.bind_some, e1, if_pos rfl, h2, Option.bind_some]
    rfl

/-! laws_hSame -/
theorem laws_hSame.loop (a b : List Int) (hl : a.length = b.length) (h : a.length < 4611686018427387904) (d : Nat) : ∀ i : Nat, a.length - i = d → i ≤ a.length → Ev (fun k => laws_hSame.l0 k a b (a.length : Int) (i : Int)) (decide (a.drop i = b.drop i)) := by
  induction d with
  | zero =>
    intro i hd hi
    refine now fun k => ?_
    simp only [laws_hSame.l0]
    rw [if_neg (by omega), List.drop_eq_nil_of_le (by omega), List.drop_eq_nil_of_le (by omega)]
    rfl
  | succ d ih =>
    intro i hd hi
    have hlt : i < a.length := by omega
    have hltb : i < b.length := by omega
    rw [drop_cons a i hlt, drop_cons b i hltb]
    by_cases e : a[i] = b[i]
    · have := ih (i + 1) (by omega) (by omega)
      refine Ev.step (f := fun k => laws_hSame.l0 k a b (a.length : Int) ((i + 1 : Nat) : Int)) (fun k => ?_) (by rw [show decide (a[i] :: a.drop (i + 1) = b[i] :: b.drop (i + 1)) = decide (a.drop (i + 1) = b.drop (i + 1)) by simp only [List.cons.injEq, e, true_and]]; exact this)
      simp only [laws_hSame.l0]
      rw [if_pos (by omega), if_pos (by omega), if_pos (by omega), if_pos (by omega), rd_get a i hlt, rd_get b i hltb, if_pos e, wrap_succ i (by omega)]
    · refine now fun k => ?_
      simp only [laws_hSame.l0]
      rw [if_pos (by omega), if_pos (by omega), if_pos (by omega), if_pos (by omega), rd_get a i hlt, rd_get b i hltb, if_neg e, show decide (a[i] :: a.drop (i + 1) = b[i] :: b.drop (i + 1)) = false by simp only [List.cons.injEq, e, false_and, decide_false]]
theorem laws_hSame.ev (a b : List Int) (h : a.length < 4611686018427387904) : Ev (fun k => laws_hSame.f k a b) (decide (a = b)) := by
  by_cases hl : a.length = b.length
  · have := laws_hSame.loop a b hl h a.length 0 (by omega) (by omega)
    refine Ev.congr (f := fun k => laws_hSame.l0 k a b (a.length : Int) ((0 : Nat) : Int)) (fun k => ?_) (by simpa using this)
    unfold laws_hSame.f
    rw [if_pos (by omega)]
    rfl
  · refine always fun k => ?_
    unfold laws_hSame.f
    rw [if_neg (by omega)]
    have : ¬ a = b := fun e => hl (by rw [e])
    simp [this]

/-! laws_hSum -/
theorem laws_hSum.loop (l : List Nat) (h : l.length < 4611686018427387904) : ∀ (d i c : Nat), l.length - i = d → i ≤ l.length → c + (l.drop i).sum < 4611686018427387904 → Ev (fun k => laws_hSum.l0 k (c : Int) (ints l) (l.length : Int) (i : Int)) ((c + (l.drop i).sum : Nat) : Int)
  | 0, i, c, hd, hi, hs => by
    refine now fun k => ?_
    simp only [laws_hSum.l0]
    rw [if_neg (by omega), List.drop_eq_nil_of_le (by omega)]
    simp
  | d + 1, i, c, hd, hi, hs => by
    have hlt : i < l.length := by omega
    rw [drop_cons l i hlt, List.sum_cons] at hs ⊢
    have ih := laws_hSum.loop l h d (i + 1) (c + l[i]) (by omega) (by omega) (by omega)
    refine Ev.step (f := fun k => laws_hSum.l0 k ((c + l[i] : Nat) : Int) (ints l) (l.length : Int) ((i + 1 : Nat) : Int)) (fun k => ?_) (by rw [← Nat.add_assoc]; exact ih)
    simp only [laws_hSum.l0]
    rw [if_pos (by omega), if_pos (by omega), if_pos (by rw [ints_length]; omega), ints_get l i hlt, wrap_succ i (by omega), wrap_id (by omega) (by omega)]
    rfl
theorem laws_hSum.ev (l : List Nat) (h : l.length < 4611686018427387904) (hs : l.sum < 4611686018427387904) : Ev (fun k => laws_hSum.f k (ints l)) (l.sum : Int) := by
  have h0 := laws_hSum.loop l h l.length 0 0 (by omega) (by omega) (by simpa using hs)
  refine Ev.congr (f := fun k => laws_hSum.l0 k ((0 : Nat) : Int) (ints l) (l.length : Int) ((0 : Nat) : Int)) (fun k => ?_) (by simpa using h0)
  unfold laws_hSum.f
  rw [ints_length]
  rfl

/-! impl_count -/
theorem impl_count.eq (x : Int) (h0 : 0 ≤ x) (h1 : x < 65536) : impl_count.f x = some ((pop x.toNat : Nat) : Int) := by
  obtain ⟨n, rfl⟩ : ∃ n : Nat, x = n := ⟨x.toNat, by omega⟩
  unfold impl_count.f
  rw [uwrap_id n (by omega), bits_OnesCount.eq n (by omega), Int.toNat_natCast]
  rfl

/-! impl_FewestLit -/
theorem impl_FewestLit.go_eq : ∀ (o : List Nat) (x : Nat), (∀ y ∈ o, y < 512) → impl_FewestLit.go (ints o) (x : Int) = some ((fewGo o x : Nat) : Int)
  | [], x, _ => rfl
  | s :: r, x, h => by
    have hs := h s List.mem_cons_self
    show impl_FewestLit.go ((s : Int) :: ints r) (x : Int) = _
    unfold impl_FewestLit.go fewGo
    have e1 : mn (x : Int) ((pop s : Nat) : Int) = ((if pop s < x then pop s else x : Nat) : Int) := by
      unfold mn
      by_cases h2 : pop s < x
      · rw [if_pos (by omega), if_pos h2]
      · rw [if_neg (by omega), if_neg h2]
    rw [impl_count.eq (s : Int) (by omega) (by omega), Option.bind_some, Int.toNat_natCast, e1]
    exact impl_FewestLit.go_eq r _ (fun y hy => h y (List.mem_cons_of_mem _ hy))
theorem impl_FewestLit.ev (l : List Int) (own : Bool) (s : Int) : Ev (fun k => impl_FewestLit.f k l own s) (if (good l && decide (l.length ≤ 9) && inSet l.length s) = true then (((fewGo (orbitOf l false s.toNat) l.length : Nat) : Int), true) else (0, false)) := by
  obtain ⟨K, hK⟩ := impl_isLit.ev l own [s]
  have ea : (good l && [s].all (inSet l.length) && decide (l.length ≤ 9)) = (good l && decide (l.length ≤ 9) && inSet l.length s) := by
    simp only [List.all_cons, List.all_nil, Bool.and_true]
    cases good l <;> cases inSet l.length s <;> cases decide (l.length ≤ 9) <;> rfl
  rw [ea] at hK
  cases e1 : (good l && decide (l.length ≤ 9) && inSet l.length s)
  · refine ⟨K, fun k hk => ?_⟩
    have h1 : impl_isLit.f k l own [s] = _ := hK k hk
    show impl_FewestLit.f k l own s = _
    unfold impl_FewestLit.f
    rw [h1, Option.bind_some, e1]
    rfl
  · have e1' := e1
    simp only [Bool.and_eq_true, decide_eq_true_eq] at e1'
    have hG : GoodG l := (good_iff l).1 e1'.1.1
    have hs : 0 ≤ s ∧ s < 2 ^ l.length := by simpa [inSet] using e1'.2
    obtain ⟨t, rfl⟩ := Int.eq_ofNat_of_zero_le hs.1
    have hc := pow_cast l.length
    have h9 := pow9 e1'.1.2
    have ht : t < 2 ^ l.length := by omega
    obtain ⟨K2, hK2⟩ := impl_Graph_orbit.ev (fun s i => impl_Graph_litMove.f l own s i) (moveOf l false) l e1'.1.2 (fun s i hs hi => impl_Graph_litMove.eq l own hG s i hs hi) (fun s i hs hi => moveOf_lt l hG false s i hs hi) t ht
    refine ⟨K + K2, fun k hk => ?_⟩
    have h1 : impl_isLit.f k l own [(t : Int)] = _ := hK k (by omega)
    have h2 : impl_Graph_orbit.f k (fun s i => impl_Graph_litMove.f l own s i) l (t : Int) = _ := hK2 k (by omega)
    show impl_FewestLit.f k l own (t : Int) = _
    unfold impl_FewestLit.f
    have h3 := impl_FewestLit.go_eq (orbitOf l false t) l.length (fun x hx => by have := orbitOf_lt l false t x hx; omega)
    unfold orbitOf at h3 ⊢
    rw [h1, Option.bind_some, e1, if_pos rfl, h2, Option.bind_some, h3, Option.bind_some]
    rfl

/-! spec_grSet -/
theorem spec_grSet.ev (l : List Int) (own : Bool) (s : Int) (h : l.length < 4611686018427387904) : Ev (fun k => spec_grSet.f k l own s) (good l && inSet l.length s) := by
  obtain ⟨K, hK⟩ := spec_grGood.ev l own h
  refine ⟨K, fun k hk => ?_⟩
  have h1 : spec_grGood.f k l own = _ := hK k hk
  show spec_grSet.f k l own s = _
  unfold spec_grSet.f
  rw [h1, Option.bind_some]
  cases hg : good l
  · rfl
  · have hG := (good_iff l).1 hg
    have := hG.top
    rw [if_pos rfl, whole_eq (by omega) (by omega), spec_l1In.eq, Option.bind_some, Bool.true_and, inSet_eq]

/-! spec_liSet -/
theorem spec_liSet.ev (l : List Int) (own : Bool) (s : Int) (h : l.length < 4611686018427387904) : Ev (fun k => spec_liSet.f k l own s) (good l && decide (l.length ≤ 9) && inSet l.length s) := by
  obtain ⟨K, hK⟩ := ev_and (spec_liGood.ev l own h) (spec_grSet.ev l own s h)
  refine ⟨K, fun k hk => ?_⟩
  obtain ⟨h1, h2⟩ := hK k hk
  show spec_liSet.f k l own s = _
  unfold spec_liSet.f
  rw [h1, Option.bind_some, h2, Option.bind_some]
  cases good l <;> cases decide (l.length ≤ 9) <;> rfl

/-! spec_FewestLit -/
theorem spec_FewestLit.loop (o : List Nat) (ho : ∀ x ∈ o, x < 512) (hl : o.length ≤ 512) (d : Nat) :
    ∀ (i x : Nat), o.length - i = d → i ≤ o.length → Ev (fun k => spec_FewestLit.l0 k (x : Int) (ints o) (o.length : Int) (i : Int)) ((fewGo (o.drop i) x : Nat), true) := by
  induction d with
  | zero =>
    intro i x hd hi
    refine now fun k => ?_
    simp only [spec_FewestLit.l0]
    rw [if_neg (by omega), List.drop_eq_nil_of_le (by omega)]
    rfl
  | succ d ih =>
    intro i x hd hi
    have hlt : i < o.length := by omega
    have hx := ho _ (List.getElem_mem hlt)
    rw [drop_cons o i hlt]
    obtain ⟨K, hK⟩ := ev_and (spec_grCount.ev (o[i] : Int) (by omega) (by omega)) (ih (i + 1) (if pop o[i] < x then pop o[i] else x) (by omega) (by omega))
    refine ⟨K + 1, fun k hk => ?_⟩
    obtain ⟨j, rfl⟩ : ∃ j, k = j + 1 := ⟨k - 1, by omega⟩
    obtain ⟨c1, c2⟩ := hK j (by omega)
    have e1 : spec_l1Least.f (x : Int) ((pop o[i] : Nat) : Int) = some (((if pop o[i] < x then pop o[i] else x : Nat)) : Int) := by
      unfold spec_l1Least.f
      by_cases h : pop o[i] < x
      · rw [if_neg (by omega), if_pos h]
      · rw [if_neg h]
        by_cases h2 : (x : Int) < ((pop o[i] : Nat) : Int)
        · rw [if_pos h2]
        · rw [if_neg h2]; congr 1; omega
    show spec_FewestLit.l0 (j + 1) (x : Int) (ints o) (o.length : Int) (i : Int) = _
    simp only [spec_FewestLit.l0]
    rw [if_pos (by omega), if_pos (by omega), if_pos (by rw [ints_length]; omega), ints_get o i hlt, c1, Option.bind_some, Int.toNat_natCast, e1, Option.bind_some, wrap_succ i (by omega)]
    exact c2
theorem spec_FewestLit.ev (l : List Int) (own : Bool) (s : Int) (h : l.length < 4611686018427387904) : Ev (fun k => spec_FewestLit.f k l own s) (if (good l && decide (l.length ≤ 9) && inSet l.length s) = true then (((fewGo (orbitOf l false s.toNat) l.length : Nat) : Int), true) else (0, false)) := by
  obtain ⟨K, hK⟩ := spec_liSet.ev l own s h
  cases e1 : (good l && decide (l.length ≤ 9) && inSet l.length s)
  · refine ⟨K, fun k hk => ?_⟩
    have h1 : spec_liSet.f k l own s = _ := hK k hk
    show spec_FewestLit.f k l own s = _
    unfold spec_FewestLit.f
    rw [h1, Option.bind_some, e1]
    rfl
  · have e1' := e1
    simp only [Bool.and_eq_true, decide_eq_true_eq] at e1'
    have hG : GoodG l := (good_iff l).1 e1'.1.1
    have hs : 0 ≤ s ∧ s < 2 ^ l.length := by simpa [inSet] using e1'.2
    obtain ⟨t, rfl⟩ := Int.eq_ofNat_of_zero_le hs.1
    have hc := pow_cast l.length
    have h9 := pow9 e1'.1.2
    have hol := orbitOf_length l false t
    obtain ⟨K2, hK2⟩ := ev_and (spec_liReach.ev l own false hG e1'.1.2 t (by omega)) (spec_FewestLit.loop (orbitOf l false t) (fun x hx => by have := orbitOf_lt l false t x hx; omega) (by omega) (orbitOf l false t).length 0 l.length (by omega) (by omega))
    refine ⟨K + K2, fun k hk => ?_⟩
    have h1 : spec_liSet.f k l own (t : Int) = _ := hK k (by omega)
    obtain ⟨h2, h3⟩ := hK2 k (by omega)
    show spec_FewestLit.f k l own (t : Int) = _
    unfold spec_FewestLit.f
    rw [h1, Option.bind_some, e1, if_pos rfl, h2, Option.bind_some, ints_length]
    exact h3

/-! impl_ReachOf -/
theorem impl_ReachOf.ev (l : List Int) (own : Bool) (s : Int) : Ev (fun k => impl_ReachOf.f k l own s) (if (good l && decide (l.length ≤ 9) && inSet l.length s) = true then (ints (orbitOf l false s.toNat), true) else ([], false)) := by
  obtain ⟨K, hK⟩ := impl_isLit.ev l own [s]
  have ea : (good l && [s].all (inSet l.length) && decide (l.length ≤ 9)) = (good l && decide (l.length ≤ 9) && inSet l.length s) := by
    simp only [List.all_cons, List.all_nil, Bool.and_true]
    cases good l <;> cases inSet l.length s <;> cases decide (l.length ≤ 9) <;> rfl
  rw [ea] at hK
  cases e1 : (good l && decide (l.length ≤ 9) && inSet l.length s)
  · refine ⟨K, fun k hk => ?_⟩
    have h1 : impl_isLit.f k l own [s] = _ := hK k hk
    show impl_ReachOf.f k l own s = _
    unfold impl_ReachOf.f
    rw [h1, Option.bind_some, e1]
    rfl
  · have e1' := e1
    simp only [Bool.and_eq_true, decide_eq_true_eq] at e1'
    have hG : GoodG l := (good_iff l).1 e1'.1.1
    have hs : 0 ≤ s ∧ s < 2 ^ l.length := by simpa [inSet] using e1'.2
    obtain ⟨t, rfl⟩ := Int.eq_ofNat_of_zero_le hs.1
    have hc := pow_cast l.length
    have ht : t < 2 ^ l.length := by omega
    obtain ⟨K2, hK2⟩ := impl_Graph_orbit.ev (fun s i => impl_Graph_litMove.f l own s i) (moveOf l false) l e1'.1.2 (fun s i hs hi => impl_Graph_litMove.eq l own hG s i hs hi) (fun s i hs hi => moveOf_lt l hG false s i hs hi) t ht
    refine ⟨K + K2, fun k hk => ?_⟩
    have h1 : impl_isLit.f k l own [(t : Int)] = _ := hK k (by omega)
    have h2 : impl_Graph_orbit.f k (fun s i => impl_Graph_litMove.f l own s i) l (t : Int) = _ := hK2 k (by omega)
    show impl_ReachOf.f k l own (t : Int) = _
    unfold impl_ReachOf.f
    rw [h1, Option.bind_some, e1, if_pos rfl, h2, Option.bind_some]
    rfl

/-! spec_ReachOf -/
theorem spec_ReachOf.ev (l : List Int) (own : Bool) (s : Int) (h : l.length < 4611686018427387904) : Ev (fun k => spec_ReachOf.f k l own s) (if (good l && decide (l.length ≤ 9) && inSet l.length s) = true then (ints (orbitOf l false s.toNat), true) else ([], false)) := by
  obtain ⟨K, hK⟩ := spec_liSet.ev l own s h
  cases e1 : (good l && decide (l.length ≤ 9) && inSet l.length s)
  · refine ⟨K, fun k hk => ?_⟩
    have h1 : spec_liSet.f k l own s = _ := hK k hk
    show spec_ReachOf.f k l own s = _
    unfold spec_ReachOf.f
    rw [h1, Option.bind_some, e1]
    rfl
  · have e1' := e1
    simp only [Bool.and_eq_true, decide_eq_true_eq] at e1'
    have hG : GoodG l := (good_iff l).1 e1'.1.1
    have hs : 0 ≤ s ∧ s < 2 ^ l.length := by simpa [inSet] using e1'.2
    obtain ⟨t, rfl⟩ := Int.eq_ofNat_of_zero_le hs.1
    have hc := pow_cast l.length
    obtain ⟨K2, hK2⟩ := spec_liReach.ev l own false hG e1'.1.2 t (by omega)
    refine ⟨K + K2, fun k hk => ?_⟩
    have h1 : spec_liSet.f k l own (t : Int) = _ := hK k (by omega)
    have h2 : spec_liReach.f k l own (t : Int) false = _ := hK2 k (by omega)
    show spec_ReachOf.f k l own (t : Int) = _
    unfold spec_ReachOf.f
    rw [h1, Option.bind_some, e1, if_pos rfl, h2, Option.bind_some]
    rfl

/-! laws_hSize -/
theorem laws_hSize.loop : ∀ (d s c : Nat), s < d → s < 4611686018427387904 → c < 4611686018427387904 → c + pop s < 4611686018427387904 → Ev (fun k => laws_hSize.l0 k (s : Int) (c : Int)) ((c + pop s : Nat) : Int)
  | 0, s, c, hd, hs, hc, hp => by omega
  | d + 1, s, c, hd, hs, hc, hp => by
    by_cases e : s = 0
    · subst e
      refine now fun k => ?_
      simp only [laws_hSize.l0]
      rw [if_neg (by omega)]
      unfold pop
      simp
    · have hq : pop s = s % 2 + pop (s / 2) := by rw [pop, if_neg e]
      rw [hq] at hp ⊢
      have ih := laws_hSize.loop d (s / 2) (c + s % 2) (by omega) (by omega) (by omega) (by omega)
      refine Ev.step (f := fun k => laws_hSize.l0 k ((s / 2 : Nat) : Int) ((c + s % 2 : Nat) : Int)) (fun k => ?_) (by rw [← Nat.add_assoc]; exact ih)
      have e1 : Int.tdiv (s : Int) 2 = ((s / 2 : Nat) : Int) := by rw [Int.tdiv_eq_ediv_of_nonneg (by omega)]; omega
      have e2 : Int.tmod (s : Int) 2 = ((s % 2 : Nat) : Int) := by rw [Int.tmod_eq_emod_of_nonneg (by omega)]; omega
      simp only [laws_hSize.l0]
      rw [if_pos (by omega), e1, e2, wrap_id (by omega) (by omega), wrap_id (by omega) (by omega)]
      rfl
theorem laws_hSize.ev (s n : Nat) (hn : n ≤ 60) (h : s < 2 ^ n) : Ev (fun k => laws_hSize.f k (s : Int)) (pop s : Int) := by
  have hp := pop_le (k := n) (by omega) h
  have h2 : (2 : Nat) ^ n ≤ 2 ^ 60 := Nat.pow_le_pow_right (by decide) hn
  have h0 := laws_hSize.loop (s + 1) s 0 (by omega) (by omega) (by omega) (by omega)
  rw [Nat.zero_add] at h0
  exact Ev.congr (f := fun k => laws_hSize.l0 k (s : Int) ((0 : Nat) : Int)) (fun k => rfl) h0

/-! laws_hHas -/
theorem laws_hHas.loop (l : List Int) (n : Int) (h : l.length < 4611686018427387904) : ∀ (d i : Nat), l.length - i = d → i ≤ l.length → Ev (fun k => laws_hHas.l0 k n l (l.length : Int) (i : Int)) ((l.drop i).contains n)
  | 0, i, hd, hi => by
    refine now fun k => ?_
    simp only [laws_hHas.l0]
    rw [if_neg (by omega), List.drop_eq_nil_of_le (by omega)]
    rfl
  | d + 1, i, hd, hi => by
    have hlt : i < l.length := by omega
    rw [drop_cons l i hlt, List.contains_cons]
    by_cases e : l[i] = n
    · refine now fun k => ?_
      simp only [laws_hHas.l0]
      rw [if_pos (by omega), if_pos (by omega), if_pos (by omega), rd_get l i hlt, if_pos e]
      simp [e]
    · have e2 : (n == l[i]) = false := by simpa using fun h => e h.symm
      refine Ev.step (f := fun k => laws_hHas.l0 k n l (l.length : Int) ((i + 1 : Nat) : Int)) (fun k => ?_) (by rw [e2, Bool.false_or]; exact laws_hHas.loop l n h d (i + 1) (by omega) (by omega))
      simp only [laws_hHas.l0]
      rw [if_pos (by omega), if_pos (by omega), if_pos (by omega), rd_get l i hlt, if_neg e, wrap_succ i (by omega)]
theorem laws_hHas.ev (l : List Int) (n : Int) (h : l.length < 4611686018427387904) : Ev (fun k => laws_hHas.f k l n) (l.contains n) := by
  have h0 := laws_hHas.loop l n h l.length 0 (by omega) (by omega)
  exact Ev.congr (f := fun k => laws_hHas.l0 k n l (l.length : Int) ((0 : Nat) : Int)) (fun k => rfl) (by simpa using h0)
end Go.Proofs.Ytjkijnggjjoheaa.Pure
